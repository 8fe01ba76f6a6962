/- Sorting numbers of 32 bits: the world behind swaps; cmp.Less; the numbers that the generator and the next power of two come to. Conditions as each lemma states. What the insertion sort of numbers of 32 bits does. Conditions as the statement says. What the reversal of numbers of 32 bits does. Conditions as the statement says. What sifting down does to numbers of 32 bits. Conditions as the statement says. What the heap sort of numbers of 32 bits does. Conditions as the statement says. How numbers of 32 bits are parted by one that equals the least. Conditions as the statement says. How numbers of 32 bits are parted by one of them. Conditions as the statement says. What a few steps of insertion make of numbers of 32 bits. Conditions as the statement says. What the medians of numbers of 32 bits are. Conditions as each lemma states. What the median of three numbers of 32 bits is, and of one and its fellows. Conditions as each statement says. Which pivot is chosen among numbers of 32 bits. Conditions as the statement says. Contracts of Go's library at this dump, laid by the shelf in its plain mode (lay-shelf.mjs, lay-plain.mjs), its numbers turned to marks by shelfmark.py. Conditions as each states. How a pattern among numbers of 32 bits is broken: the generator, the next power of two, three exchanges. Conditions as each statement says. What the sort makes of numbers of 32 bits: rounds, a call of itself for the lesser side. Conditions as each statement says. slices.Sort of numbers of 32 bits, in a row of the call's own: they rise, and are the same ones. Condition: fewer than 2^60. -/
import Derived.Sort.WalkA
import Derived.Sort.Walk13a
import Derived.Test.YtbljhjfaimnieaaGreatProg
import Derived.Test.YtbljhjfaimnieaaGreatGround
import Derived.Sort.WalkB3
import Derived.Sort.WalkC4
import Derived.Deep.CutBlock
import Derived.Deep.DeepCutAuto
import Derived.Sort.WalkA6
import Derived.Sort.Walk11
import Derived.Shelf.Small.Bits
import Derived.Shelf.Strconv.Itoa0
import Derived.Sort.Walk7
import Derived.Deep.RegionHeld
import Derived.Sort.AssemblyPlain
namespace Go.Proofs.YtbljhjfaimnieaaGreat.su
open Go.Proofs Go.RowKit Go.Sort
set_option linter.unusedVariables false
set_option linter.unusedSimpArgs false
/-- numbers of 32 bits as values -/
abbrev eu : Int → Value := fun x => Value.int .u32 x

section
variable {w wr w1 : World} {blk off : Nat} {d d0 : Array Int}
theorem At.cells (h : At eu w blk off d wr) (h0 : Holds eu w blk off d0) (hs : d.size = d0.size) (hb : blk < w.heap.size) : ∀ t, t < d.size → wr.cell? ⟨blk, off + t, none⟩ = some (.int .u32 d[t]!) ∧ wr.frozen? ⟨blk, off + t, none⟩ = false := fun t ht => by
  have := (h.holds h0 hs hb).1 t ht
  exact this
theorem At.drewN (h : At eu w blk off d wr) (m : Nat) : At eu w blk off d (wr.drewN m) := h.ahead m
/-- two of its elements changed places, behind some draws -/
theorem At.swap (h : At eu w blk off d wr) (h0 : Holds eu w blk off d0) (hs : d.size = d0.size) (hb : blk < w.heap.size) (q j k : Nat) (hj : j < d.size) (hk : k < d.size) :
    At eu w blk off (swp d j k) (((wr.drewN q).setCell ⟨blk, off + j, none⟩ (.int .u32 d[k]!)).setCell ⟨blk, off + k, none⟩ (.int .u32 d[j]!)) := by
  refine h.step hb (by rw [size_swp]) ⟨q, ?_⟩
  have e := putRow_swp eu (wr.drewN q) blk off d j k hj hk
  have hh := (h.holds h0 hs hb).1
  rw [show (wr.drewN q) = Sort.ahead wr q from rfl] at e ⊢
  rw [putRow_self eu (Sort.ahead wr q) blk off d (holds_ahead eu wr q blk off d hh)] at e
  exact e
end

set_option maxHeartbeats 1000000 in
theorem isNaN_any (x : Int) (w : World) : Calls Tryz.prog 117 #[.int .u32 x] w fun e w' => e = .returned (.bool false) ∧ w' = w := by
  go_enter Tryz.func117, Tryz.ntmps117
  go_wp2
  go_ret
  exact ⟨by simp, rfl⟩
set_option maxHeartbeats 1000000 in
theorem Less_any (x y : Int) (w : World) : Calls Tryz.prog 156 #[.int .u32 x, .int .u32 y] w fun e w' => e = .returned (.bool (ltInt x y)) ∧ w' = w := by
  go_enter Tryz.func156, Tryz.ntmps156
  go_wp2_with (go_at_call 117; refine (isNaN_any _ _).mono ?_; rintro e w' ⟨rfl, rfl⟩)
  go_ret
  exact ⟨rfl, rfl⟩
end Go.Proofs.YtbljhjfaimnieaaGreat.su

namespace Go.Proofs.YtbljhjfaimnieaaGreat.su
open Go.Proofs Go.RowKit Go.Sort Go.Proofs.YtbljhjfaimnieaaGreat.kit
set_option linter.unusedVariables false
set_option linter.unusedSimpArgs false
set_option maxRecDepth 100000 in
set_option maxHeartbeats 2000000 in
theorem ins_any (blk off cap a b : Nat) (d : Array Int) (w : World) (hH : Holds eu w blk off d) (hblk : blk < w.heap.size) (hab : a ≤ b) (hb : b ≤ d.size) (hsz : d.size < 4611686018427387904) :
    Calls Tryz.prog 150 #[.slice (some ⟨blk, off, none⟩) d.size cap, .int .i64 a, .int .i64 b] w fun e w' =>
      e = .returned (.tuple #[]) ∧ At eu w blk off (insertionSort ltInt d a b) w' := by
  have HH := Lib.hid hH
  have HB := Lib.hid hblk
  obtain ⟨N, hN⟩ : ∃ N, N = d.size := ⟨_, rfl⟩
  have HN := Lib.hid hN
  rw [← hN] at hsz hb ⊢
  clear hH hblk hN
  go_enter Tryz.func150, Tryz.ntmps150
  go_wp2_with fail
  go_loopw [6] (fun v6 wr => ∃ (i : Nat) (dk : Array Int), v6 = .int .i64 (i : Int) ∧ a < i ∧ i ≤ b + 1 ∧ dk.size = N ∧ At eu w blk off dk wr ∧ insOuter ltInt a b i dk = insOuter ltInt a b (a + 1) d) (fun v6 _ => b + 1 - (intOf v6).toNat)
  case atStart => exact ⟨a + 1, d, by go_num, by omega, by omega, HN.out.symm, At.refl HH.out, rfl⟩
  case round =>
    obtain ⟨i, dk, rfl, hai, hib, hsk, hA, hO⟩ := hrel
    have HA := Lib.hid hA
    have HO := Lib.hid hO
    have HS := Lib.hid hsk
    clear hA hO hsk
    by_cases hlt : i < b
    · go_wp2_with fail
      go_loopw [7] (fun v7 w2 => ∃ (j : Nat) (dj : Array Int), v7 = .int .i64 (j : Int) ∧ a ≤ j ∧ j ≤ i ∧ dj.size = N ∧ At eu w blk off dj w2 ∧ insInner ltInt a j dj = insInner ltInt a i dk) (fun v7 _ => (intOf v7).toNat)
      case atStart => exact ⟨i, dk, rfl, by omega, Nat.le_refl _, HS.out, HA.out, rfl⟩
      case round =>
        obtain ⟨j, dj, rfl, haj, hji, hsj, hA2, hI⟩ := hrel
        have HA2 := Lib.hid hA2
        have HI := Lib.hid hI
        have HSj := Lib.hid hsj
        have HC := Lib.hid (At.cells hA2 HH.out (hsj.trans HN.out) HB.out)
        clear hA2 hI hsj
        obtain ⟨G, hG⟩ : ∃ G : Nat → Int, ∀ t, G t = dj[t]! := ⟨fun t => dj[t]!, fun _ => rfl⟩
        have HG := Lib.hid hG
        have hcw : ∀ t, t < N → wr.cell? ⟨blk, off + t, none⟩ = some (.int .u32 (G t)) := fun t ht => by rw [hG]; exact (HC.out t (by rw [HSj.out]; exact ht)).1
        have hfw : ∀ t, t < N → wr.frozen? ⟨blk, off + t, none⟩ = false := fun t ht => (HC.out t (by rw [HSj.out]; exact ht)).2
        clear hG
        have HE : Hid ((j ≤ a ∨ ltInt (G j) (G (j - 1)) = false) → insOuter ltInt a b (i + 1) dj = insOuter ltInt a b (a + 1) d) := fun hs => by
          rw [HG.out, HG.out] at hs
          rw [← HO.out, insOuter_go ltInt a b i dk hlt, ← HI.out, insInner_stop ltInt a j dj hs]
        by_cases hja : a < j
        · go_wp2_with fail
          go_quiet (first | (go_at_call 156; refine Calls.quiet_of_same (Less_any _ _ _)))
          go_wp2_with fail
          · have hl : ltInt (G j) (G (j - 1)) = true := by assumption
            go_region
            all_goals go_wp2_with fail
            go_roundw
            case rel =>
              rw [HG.out, HG.out] at hl
              refine ⟨j - 1, swp dj j (j - 1), by congr 1; omega, by omega, by omega, by rw [size_swp]; exact HSj.out, ?_, by rw [← HI.out, insInner_go ltInt a j dj hja hl]⟩
              rw [HG.out, HG.out]
              exact At.swap HA2.out HH.out (HSj.out.trans HN.out) HB.out (nq + 1) j (j - 1) (by rw [HSj.out]; omega) (by rw [HSj.out]; omega)
            case measure => simp [intOf]; omega
          · have hl : ltInt (G j) (G (j - 1)) = false := by assumption
            go_roundw
            case rel => exact ⟨i + 1, dj, by go_num, by omega, by omega, HSj.out, At.drewN HA2.out nq, HE.out (.inr hl)⟩
            case measure => simp [intOf]; omega
        · go_wp2_with fail
          go_quiet (first | (go_at_call 156; refine Calls.quiet_of_same (Less_any _ _ _)))
          go_wp2_with fail
          go_roundw
          case rel => exact ⟨i + 1, dj, by go_num, by omega, by omega, HSj.out, At.drewN HA2.out nq, HE.out (.inl (by omega))⟩
          case measure => simp [intOf]; omega
    · go_wp2_with fail
      go_end0
      refine ⟨rfl, ?_⟩
      rw [show insertionSort ltInt d a b = dk from by unfold insertionSort; rw [← HO.out, insOuter_stop ltInt a b i dk hlt]]
      exact HA.out
end Go.Proofs.YtbljhjfaimnieaaGreat.su

namespace Go.Proofs.YtbljhjfaimnieaaGreat.su
open Go.Proofs Go.RowKit Go.Sort Go.Proofs.YtbljhjfaimnieaaGreat.kit
set_option linter.unusedVariables false
set_option linter.unusedSimpArgs false
set_option maxRecDepth 100000 in
set_option maxHeartbeats 2000000 in
theorem rev_any (blk off cap a b : Nat) (d : Array Int) (w : World) (hH : Holds eu w blk off d) (hblk : blk < w.heap.size) (hab : a < b) (hb : b ≤ d.size) (hsz : d.size < 4611686018427387904) :
    Calls Tryz.prog 154 #[.slice (some ⟨blk, off, none⟩) d.size cap, .int .i64 a, .int .i64 b] w fun e w' =>
      e = .returned (.tuple #[]) ∧ At eu w blk off (reverseRange d a b) w' := by
  have HH := Lib.hid hH
  have HB := Lib.hid hblk
  obtain ⟨N, hN⟩ : ∃ N, N = d.size := ⟨_, rfl⟩
  have HN := Lib.hid hN
  rw [← hN] at hsz hb ⊢
  clear hH hblk hN
  go_enter Tryz.func154, Tryz.ntmps154
  go_wp2_with fail
  go_loopw [6, 7] (fun v6 v7 wr => ∃ (i j : Nat) (dk : Array Int), v6 = .int .i64 (i : Int) ∧ v7 = .int .i64 (j : Int) ∧ i ≤ j + 1 ∧ j < N ∧ dk.size = N ∧ At eu w blk off dk wr ∧ reverseLoop i j dk = reverseLoop a (b - 1) d) (fun v6 v7 _ => ((intOf v7) + 1 - (intOf v6)).toNat)
  case atStart => exact ⟨a, b - 1, d, rfl, by go_num, by omega, by omega, HN.out.symm, At.refl HH.out, rfl⟩
  case round =>
    obtain ⟨i, j, dk, rfl, rfl, hij, hjN, hsk, hA, hO⟩ := hrel
    have HA := Lib.hid hA
    have HO := Lib.hid hO
    have HS := Lib.hid hsk
    have HC := Lib.hid (At.cells hA HH.out (hsk.trans HN.out) HB.out)
    clear hA hO hsk
    by_cases hlt : i < j
    · obtain ⟨x, hx⟩ : ∃ x : Int, x = dk[i]! := ⟨_, rfl⟩
      obtain ⟨y, hy⟩ : ∃ y : Int, y = dk[j]! := ⟨_, rfl⟩
      have hi2 : i < dk.size := by rw [HS.out]; omega
      have hj2 : j < dk.size := by rw [HS.out]; omega
      obtain ⟨ci, fi⟩ := HC.out i hi2
      obtain ⟨cj, fj⟩ := HC.out j hj2
      rw [← hx] at ci
      rw [← hy] at cj
      have HX := Lib.hid (And.intro hx hy)
      have HI := Lib.hid (And.intro hi2 hj2)
      clear hx hy hi2 hj2
      go_wp2_with fail
      go_region
      all_goals go_wp2_with fail
      go_roundw
      case rel =>
        refine ⟨i + 1, j - 1, swp dk i j, by go_num, by go_num, by omega, by omega, by rw [size_swp]; exact HS.out, ?_, ?_⟩
        · rw [HX.out.1, HX.out.2]
          exact At.swap HA.out HH.out (HS.out.trans HN.out) HB.out 1 i j HI.out.1 HI.out.2
        · rw [← HO.out, reverseLoop.eq_def i j dk, if_pos hlt]
      case measure => simp [intOf]; omega
    · go_wp2_with fail
      go_end0
      refine ⟨rfl, ?_⟩
      rw [show reverseRange d a b = dk from by unfold reverseRange; rw [← HO.out, reverseLoop.eq_def i j dk, if_neg hlt]]
      exact HA.out
end Go.Proofs.YtbljhjfaimnieaaGreat.su

namespace Go.Proofs.YtbljhjfaimnieaaGreat.su
open Go.Proofs Go.RowKit Go.Sort Go.Proofs.YtbljhjfaimnieaaGreat.kit
set_option linter.unusedVariables false
set_option linter.unusedSimpArgs false
section
variable {α : Type} [Inhabited α] (lt : α → α → Bool) {hi F r c : Nat}
theorem sr_stop (hc : c = 2 * r + 1) (d : Array α) (h1 : c + 1 < hi) (h2 : lt d[F + c]! d[F + (c + 1)]! = true) (h3 : lt d[F + r]! d[F + (c + 1)]! = false) : siftDown lt hi F r d = d := by
  subst hc; exact sd_right_stop lt d h1 h2 h3
theorem sr_go (hc : c = 2 * r + 1) (d : Array α) (h1 : c + 1 < hi) (h2 : lt d[F + c]! d[F + (c + 1)]! = true) (h3 : lt d[F + r]! d[F + (c + 1)]! = true) : siftDown lt hi F r d = siftDown lt hi F (c + 1) (swp d (F + r) (F + (c + 1))) := by
  subst hc; exact sd_right_go lt d h1 h2 h3
theorem sl_stop (hc : c = 2 * r + 1) (d : Array α) (h0 : c < hi) (h2 : c + 1 < hi → lt d[F + c]! d[F + (c + 1)]! = false) (h3 : lt d[F + r]! d[F + c]! = false) : siftDown lt hi F r d = d := by
  subst hc; exact sd_left_stop lt d h0 h2 h3
theorem sl_go (hc : c = 2 * r + 1) (d : Array α) (h0 : c < hi) (h2 : c + 1 < hi → lt d[F + c]! d[F + (c + 1)]! = false) (h3 : lt d[F + r]! d[F + c]! = true) : siftDown lt hi F r d = siftDown lt hi F c (swp d (F + r) (F + c)) := by
  subst hc; exact sd_left_go lt d h0 h2 h3
end
set_option maxRecDepth 100000 in
set_option maxHeartbeats 4000000 in
theorem sift_any (blk off cap lo hi first : Nat) (d : Array Int) (N : Nat) (hN : N = d.size) (w : World) (hH : Holds eu w blk off d) (hblk : blk < w.heap.size) (hlo : lo ≤ hi) (hb : first + hi ≤ N) (hsz : N < 1152921504606846976) :
    Calls Tryz.prog 160 #[.slice (some ⟨blk, off, none⟩) N cap, .int .i64 lo, .int .i64 hi, .int .i64 first] w fun e w' =>
      e = .returned (.tuple #[]) ∧ At eu w blk off (siftDown ltInt hi first lo d) w' := by
  have HH := Lib.hid hH
  have HB := Lib.hid hblk
  have HN := Lib.hid hN
  clear hH hblk hN
  go_enter Tryz.func160, Tryz.ntmps160
  go_wp2_with fail
  go_loopw [8] (fun v8 wr => ∃ (r : Nat) (dk : Array Int), v8 = .int .i64 (r : Int) ∧ r ≤ hi ∧ dk.size = N ∧ At eu w blk off dk wr ∧ siftDown ltInt hi first r dk = siftDown ltInt hi first lo d) (fun v8 _ => hi - (intOf v8).toNat)
  case atStart => exact ⟨lo, d, rfl, hlo, HN.out.symm, At.refl HH.out, rfl⟩
  case round =>
    obtain ⟨r, dk, rfl, hr, hsk, hA, hO⟩ := hrel
    have HA := Lib.hid hA
    have HO := Lib.hid hO
    have HS := Lib.hid hsk
    have HC := Lib.hid (At.cells hA HH.out (hsk.trans HN.out) HB.out)
    clear hA hO hsk
    obtain ⟨G, hG⟩ : ∃ G : Nat → Int, ∀ t, G t = dk[t]! := ⟨fun t => dk[t]!, fun _ => rfl⟩
    have HG := Lib.hid hG
    have hcw : ∀ t, t < N → wr.cell? ⟨blk, off + t, none⟩ = some (.int .u32 (G t)) := fun t ht => by rw [hG]; exact (HC.out t (by rw [HS.out]; exact ht)).1
    have hfw : ∀ t, t < N → wr.frozen? ⟨blk, off + t, none⟩ = false := fun t ht => (HC.out t (by rw [HS.out]; exact ht)).2
    clear hG
    by_cases h00 : 2 * r + 1 < hi
    · obtain ⟨c, hc⟩ : ∃ c : Nat, c = 2 * r + 1 := ⟨_, rfl⟩
      have e : 2 * (r : Int) + 1 = (c : Int) := by omega
      have h0 : c < hi := by omega
      have HCq : Hid (c = 2 * r + 1) := hc
      clear hc h00
      by_cases h1 : c + 1 < hi
      · have hz : (c : Int) + 1 < (hi : Int) := by omega
        have q0 : (first : Int) + (c : Int) < (N : Int) := by omega
        have q1 : (first : Int) + (c : Int) + 1 < (N : Int) := by omega
        have q3 : (first : Int) + ((c : Int) + 1) < (N : Int) := by omega
        have q2 : (first : Int) + (r : Int) < (N : Int) := by omega
        go_wp2_with fail
        go_quiet (first | (go_at_call 156; refine Calls.quiet_of_same (Less_any _ _ _)))
        go_wp2_with fail
        · have h2 : ltInt (G (first + c)) (G (first + (c + 1))) = true := by assumption
          have H2 : Hid (ltInt dk[first + c]! dk[first + (c + 1)]! = true) := by rw [Hid, ← HG.out, ← HG.out]; exact h2
          clear h2
          have HA2 := Lib.hid (At.drewN HA.out nq)
          have hcw2 : ∀ t, t < N → (wr.drewN nq).cell? ⟨blk, off + t, none⟩ = some (.int .u32 (G t)) := hcw
          have hfw2 : ∀ t, t < N → (wr.drewN nq).frozen? ⟨blk, off + t, none⟩ = false := hfw
          clear hcw hfw HA HC
          generalize wr.drewN nq = w2 at *
          go_quiet (first | (go_at_call 156; refine Calls.quiet_of_same (Less_any _ _ _)))
          go_wp2_with fail
          · have h3 : ltInt (G (first + r)) (G (first + (c + 1))) = false := by (have hq : (!ltInt (G (first + r)) (G (first + (c + 1)))) = true := (by assumption)); simpa using hq
            refine bodyPost_ret (results_none rfl _ _ _) rfl ?_
            refine ⟨rfl, ?_⟩
            rw [HG.out, HG.out] at h3
            rw [← HO.out, sr_stop ltInt HCq.out dk h1 H2.out h3]
            exact At.drewN HA2.out _
          · have h3 : ltInt (G (first + r)) (G (first + (c + 1))) = true := by (have hq : (!ltInt (G (first + r)) (G (first + (c + 1)))) = false := (by assumption)); simpa using hq
            go_region
            all_goals go_wp2_with fail
            go_roundw
            case rel =>
              rw [HG.out, HG.out] at h3
              refine ⟨(c + 1), swp dk (first + r) (first + (c + 1)), by go_num, by omega, by rw [size_swp]; exact HS.out, ?_, by rw [← HO.out, sr_go ltInt HCq.out dk h1 H2.out h3]⟩
              rw [HG.out, HG.out]
              exact At.swap HA2.out HH.out (HS.out.trans HN.out) HB.out _ (first + r) (first + (c + 1)) (by rw [HS.out]; omega) (by rw [HS.out]; omega)
            case measure => simp [intOf]; omega
        · have h2 : ltInt (G (first + c)) (G (first + (c + 1))) = false := by assumption
          have H2 : Hid (ltInt dk[first + c]! dk[first + (c + 1)]! = false) := by rw [Hid, ← HG.out, ← HG.out]; exact h2
          clear h2
          have HA2 := Lib.hid (At.drewN HA.out nq)
          have hcw2 : ∀ t, t < N → (wr.drewN nq).cell? ⟨blk, off + t, none⟩ = some (.int .u32 (G t)) := hcw
          have hfw2 : ∀ t, t < N → (wr.drewN nq).frozen? ⟨blk, off + t, none⟩ = false := hfw
          clear hcw hfw HA HC
          generalize wr.drewN nq = w2 at *
          go_quiet (first | (go_at_call 156; refine Calls.quiet_of_same (Less_any _ _ _)))
          go_wp2_with fail
          · have h3 : ltInt (G (first + r)) (G (first + c)) = false := by (have hq : (!ltInt (G (first + r)) (G (first + c))) = true := (by assumption)); simpa using hq
            refine bodyPost_ret (results_none rfl _ _ _) rfl ?_
            refine ⟨rfl, ?_⟩
            rw [HG.out, HG.out] at h3
            rw [← HO.out, sl_stop ltInt HCq.out dk h0 (fun _ => H2.out) h3]
            exact At.drewN HA2.out _
          · have h3 : ltInt (G (first + r)) (G (first + c)) = true := by (have hq : (!ltInt (G (first + r)) (G (first + c))) = false := (by assumption)); simpa using hq
            go_region
            all_goals go_wp2_with fail
            go_roundw
            case rel =>
              rw [HG.out, HG.out] at h3
              refine ⟨c, swp dk (first + r) (first + c), by go_num, by omega, by rw [size_swp]; exact HS.out, ?_, by rw [← HO.out, sl_go ltInt HCq.out dk h0 (fun _ => H2.out) h3]⟩
              rw [HG.out, HG.out]
              exact At.swap HA2.out HH.out (HS.out.trans HN.out) HB.out _ (first + r) (first + c) (by rw [HS.out]; omega) (by rw [HS.out]; omega)
            case measure => simp [intOf]; omega
      · have hz : decide ((c : Int) + 1 < (hi : Int)) = false := by simp; omega
        have q0 : (first : Int) + (c : Int) < (N : Int) := by omega
        have q2 : (first : Int) + (r : Int) < (N : Int) := by omega
        go_wp2_with fail
        go_quiet (first | (go_at_call 156; refine Calls.quiet_of_same (Less_any _ _ _)))
        go_wp2_with fail
        have HA2 := Lib.hid (At.drewN HA.out nq)
        have hcw2 : ∀ t, t < N → (wr.drewN nq).cell? ⟨blk, off + t, none⟩ = some (.int .u32 (G t)) := hcw
        have hfw2 : ∀ t, t < N → (wr.drewN nq).frozen? ⟨blk, off + t, none⟩ = false := hfw
        clear hcw hfw HA HC
        generalize wr.drewN nq = w2 at *
        go_quiet (first | (go_at_call 156; refine Calls.quiet_of_same (Less_any _ _ _)))
        go_wp2_with fail
        · have h3 : ltInt (G (first + r)) (G (first + c)) = false := by (have hq : (!ltInt (G (first + r)) (G (first + c))) = true := (by assumption)); simpa using hq
          refine bodyPost_ret (results_none rfl _ _ _) rfl ?_
          refine ⟨rfl, ?_⟩
          rw [HG.out, HG.out] at h3
          rw [← HO.out, sl_stop ltInt HCq.out dk h0 (fun h => absurd h h1) h3]
          exact At.drewN HA2.out _
        · have h3 : ltInt (G (first + r)) (G (first + c)) = true := by (have hq : (!ltInt (G (first + r)) (G (first + c))) = false := (by assumption)); simpa using hq
          go_region
          all_goals go_wp2_with fail
          go_roundw
          case rel =>
            rw [HG.out, HG.out] at h3
            refine ⟨c, swp dk (first + r) (first + c), by go_num, by omega, by rw [size_swp]; exact HS.out, ?_, by rw [← HO.out, sl_go ltInt HCq.out dk h0 (fun h => absurd h h1) h3]⟩
            rw [HG.out, HG.out]
            exact At.swap HA2.out HH.out (HS.out.trans HN.out) HB.out _ (first + r) (first + c) (by rw [HS.out]; omega) (by rw [HS.out]; omega)
          case measure => simp [intOf]; omega
    · go_wp2_with fail
      go_end0
      refine ⟨rfl, ?_⟩
      rw [← HO.out, sd_end ltInt dk (by omega)]
      exact HA.out
end Go.Proofs.YtbljhjfaimnieaaGreat.su

namespace Go.Proofs.YtbljhjfaimnieaaGreat.su
open Go.Proofs Go.RowKit Go.Sort Go.Proofs.YtbljhjfaimnieaaGreat.kit
set_option linter.unusedVariables false
set_option linter.unusedSimpArgs false
set_option maxRecDepth 100000 in
set_option maxHeartbeats 4000000 in
theorem heap_any (blk off cap a b : Nat) (d : Array Int) (N : Nat) (hN : N = d.size) (w : World) (hH : Holds eu w blk off d) (hblk : blk < w.heap.size) (hab : a ≤ b) (hb : b ≤ N) (hsz : N < 1152921504606846976) :
    Calls Tryz.prog 151 #[.slice (some ⟨blk, off, none⟩) N cap, .int .i64 a, .int .i64 b] w fun e w' =>
      e = .returned (.tuple #[]) ∧ At eu w blk off (heapSort ltInt d a b) w' := by
  have HH := Lib.hid hH
  have HB := Lib.hid hblk
  have HN := Lib.hid hN
  obtain ⟨L, hL⟩ : ∃ L, L = b - a := ⟨_, rfl⟩
  have eL : (b : Int) - (a : Int) = (L : Int) := by omega
  have HL : Hid (L = b - a) := hL
  have hbL : a + L ≤ N := by omega
  have HSz : Hid (∀ (hi F r : Nat) (x : Array Int), (siftDown ltInt hi F r x).size = x.size) := fun hi F r x => size_siftDown ltInt hi F (hi - r) r x (Nat.le_refl _)
  have HSt : Hid (∀ (dk : Array Int) (wr : World) (lo hi : Nat), dk.size = N → At eu w blk off dk wr → lo ≤ hi → a + hi ≤ N → Calls Tryz.prog 160 #[.slice (some ⟨blk, off, none⟩) N cap, .int .i64 lo, .int .i64 hi, .int .i64 a] wr fun e w' =>
      e = .returned (.tuple #[]) ∧ At eu w blk off (siftDown ltInt hi a lo dk) w') := fun dk wr lo hi hs hA h1 h2 => by
    obtain ⟨hh, hbb⟩ := hA.holds HH.out (hs.trans HN.out) HB.out
    refine (sift_any blk off cap lo hi a dk N hs.symm wr hh hbb h1 h2 hsz).mono ?_
    rintro e w' ⟨rfl, hA2⟩
    obtain ⟨m, os, e2⟩ := hA2
    exact ⟨rfl, hA.stepG HB.out (HSz.out _ _ _ _) ⟨m, os, e2⟩⟩
  have hq : ((L : Int) - 1).tdiv 2 = (((L - 1) / 2 + 1 : Nat) : Int) - 1 := by
    have := half_start (a := 0) (b := L) (Nat.zero_le _)
    simpa using this
  have HE : Hid (heapSort ltInt d a b = heapPop ltInt a L (heapBuild ltInt L a ((L - 1) / 2 + 1) d)) := by rw [Hid, hL]; rfl
  obtain ⟨K, hK⟩ : ∃ K, K = (L - 1) / 2 + 1 := ⟨_, rfl⟩
  rw [← hK] at hq HE
  have hKL : K ≤ L + 1 := by omega
  clear hH hblk hN hL hK
  go_enter Tryz.func151, Tryz.ntmps151
  go_wp2_with fail
  go_loopw [9] (fun v9 wr => ∃ (k : Nat) (dk : Array Int), v9 = .int .i64 ((k : Int) - 1) ∧ k ≤ K ∧ dk.size = N ∧ At eu w blk off dk wr ∧ heapBuild ltInt L a k dk = heapBuild ltInt L a K d) (fun v9 _ => (intOf v9 + 1).toNat)
  case atStart => exact ⟨K, d, rfl, Nat.le_refl _, HN.out.symm, At.refl HH.out, rfl⟩
  case round =>
    obtain ⟨k, dk, rfl, hk, hsk, hA, hO⟩ := hrel
    have HA := Lib.hid hA
    have HO := Lib.hid hO
    have HS := Lib.hid hsk
    clear hA hO hsk
    rcases Nat.eq_zero_or_pos k with h0 | h0
    · subst h0
      have HO2 : Hid (heapSort ltInt d a b = heapPop ltInt a L dk) := by rw [Hid, HE.out, ← HO.out]; rfl
      rw [show ((0 : Nat) : Int) - 1 = -1 from rfl]
      go_wp2_with fail
      go_loopw [10] (fun v10 wr => ∃ (k : Nat) (dj : Array Int), v10 = .int .i64 ((k : Int) - 1) ∧ k ≤ L ∧ dj.size = N ∧ At eu w blk off dj wr ∧ heapPop ltInt a k dj = heapPop ltInt a L dk) (fun v10 _ => (intOf v10 + 1).toNat)
      case atStart => exact ⟨L, dk, rfl, Nat.le_refl _, HS.out, HA.out, rfl⟩
      case round =>
        obtain ⟨k, dj, rfl, hk, hsj, hA2, hO3⟩ := hrel
        have HA2 := Lib.hid hA2
        have HO3 := Lib.hid hO3
        have HSj := Lib.hid hsj
        have HC := Lib.hid (At.cells hA2 HH.out (hsj.trans HN.out) HB.out)
        clear hA2 hO3 hsj
        rcases Nat.eq_zero_or_pos k with h1 | h1
        · subst h1
          go_wp2_with fail
          go_end0
          refine ⟨rfl, ?_⟩
          rw [HO2.out, ← HO3.out]
          exact HA2.out
        · obtain ⟨j, hj⟩ : ∃ j, k = j + 1 := ⟨k - 1, by omega⟩
          subst hj
          have ej : ((j + 1 : Nat) : Int) - 1 = (j : Int) := by omega
          obtain ⟨x, hx⟩ : ∃ x : Int, x = dj[a]! := ⟨_, rfl⟩
          obtain ⟨y, hy⟩ : ∃ y : Int, y = dj[a + j]! := ⟨_, rfl⟩
          have hi2 : a < dj.size := by rw [HSj.out]; omega
          have hj2 : a + j < dj.size := by rw [HSj.out]; omega
          obtain ⟨ci, fi⟩ := HC.out a hi2
          obtain ⟨cj, fj⟩ := HC.out (a + j) hj2
          rw [← hx] at ci
          rw [← hy] at cj
          have HX := Lib.hid (And.intro hx hy)
          have HI := Lib.hid (And.intro hi2 hj2)
          have q0 : (a : Int) + (j : Int) < (N : Int) := by omega
          have q1 : (a : Int) < (N : Int) := by omega
          have HNx : Hid (∀ q, At eu w blk off (swp dj a (a + j)) (((wr.drewN q).setCell ⟨blk, off + a, none⟩ (.int .u32 y)).setCell ⟨blk, off + (a + j), none⟩ (.int .u32 x))) := fun q => by
            rw [HX.out.1, HX.out.2]
            exact At.swap HA2.out HH.out (HSj.out.trans HN.out) HB.out q a (a + j) HI.out.1 HI.out.2
          obtain ⟨v', hv'⟩ := cell?_setCell_some (w := wr) (p := ⟨blk, off + a, none⟩) (x := .int .u32 y) (q := ⟨blk, off + (a + j), none⟩) cj
          clear hx hy hi2 hj2
          rw [ej]
          go_wp2_with fail
          go_region
          go_wp2_with fail
          refine (HSt.out (swp dj a (a + j)) _ 0 j (by rw [size_swp]; exact HSj.out) (by exact HNx.out 1) (Nat.zero_le _) (by omega)).mono ?_; rintro e w3 ⟨rfl, hA3⟩
          have HA3 := Lib.hid hA3
          clear hA3
          go_wp2_with fail
          go_roundw
          case rel => exact ⟨j, _, rfl, by omega, by rw [HSz.out, size_swp]; exact HSj.out, HA3.out, HO3.out⟩
          case measure => simp [intOf]
    · obtain ⟨j, hj⟩ : ∃ j, k = j + 1 := ⟨k - 1, by omega⟩
      subst hj
      have ej : ((j + 1 : Nat) : Int) - 1 = (j : Int) := by omega
      have HC := Lib.hid (HSt.out dk wr j L HS.out HA.out (by omega) hbL)
      rw [ej]
      go_wp2_with fail
      refine HC.out.mono ?_; rintro e w3 ⟨rfl, hA3⟩
      have HA3 := Lib.hid hA3
      clear hA3
      go_wp2_with fail
      go_roundw
      case rel => exact ⟨j, _, rfl, by omega, by rw [HSz.out]; exact HS.out, HA3.out, HO.out⟩
      case measure => simp [intOf]
end Go.Proofs.YtbljhjfaimnieaaGreat.su

namespace Go.Proofs.YtbljhjfaimnieaaGreat.su
open Go.Proofs Go.RowKit Go.Sort Go.Proofs.YtbljhjfaimnieaaGreat.kit
set_option linter.unusedVariables false
set_option linter.unusedSimpArgs false
set_option maxRecDepth 100000 in
set_option maxHeartbeats 8000000 in
theorem parteq_any (blk off cap a b pivot : Nat) (d : Array Int) (N : Nat) (hN : N = d.size) (w : World) (hH : Holds eu w blk off d) (hblk : blk < w.heap.size) (hap : a ≤ pivot) (hpb : pivot < b) (hb : b ≤ N) (hsz : N < 1152921504606846976) :
    Calls Tryz.prog 157 #[.slice (some ⟨blk, off, none⟩) N cap, .int .i64 a, .int .i64 b, .int .i64 pivot] w fun e w' =>
      e = .returned (.int .i64 (partitionEqual ltInt d a b pivot).1) ∧ At eu w blk off (partitionEqual ltInt d a b pivot).2 w' := by
  have HH := Lib.hid hH
  have HB := Lib.hid hblk
  have HN := Lib.hid hN
  obtain ⟨ca, fa⟩ := hH a (by omega)
  obtain ⟨cp, fp⟩ := hH pivot (by omega)
  obtain ⟨x, hx⟩ : ∃ x : Int, x = d[a]! := ⟨_, rfl⟩
  obtain ⟨y, hy⟩ : ∃ y : Int, y = d[pivot]! := ⟨_, rfl⟩
  have HS0 : Hid (∀ q, At eu w blk off (swp d a pivot) (((w.drewN q).setCell ⟨blk, off + a, none⟩ (eu y)).setCell ⟨blk, off + pivot, none⟩ (eu x))) := fun q => by
    rw [hx, hy]
    exact At.swap (At.refl hH) hH rfl hblk q a pivot (by omega) (by omega)
  replace ca : w.cell? ⟨blk, off + a, none⟩ = some (.int .u32 x) := by rw [hx]; exact ca
  replace cp : w.cell? ⟨blk, off + pivot, none⟩ = some (.int .u32 y) := by rw [hy]; exact cp
  obtain ⟨v', hv'⟩ := cell?_setCell_some (w := w) (p := ⟨blk, off + a, none⟩) (x := .int .u32 y) (q := ⟨blk, off + pivot, none⟩) cp
  have hsz1 : (swp d a pivot).size = N := by rw [size_swp, ← hN]
  have E : partitionEqual ltInt d a b pivot = partEqLoop ltInt a (a + 1) (b - 1) (swp d a pivot) := rfl
  rw [E]
  generalize swp d a pivot = d1 at HS0 hsz1
  have HS1 := Lib.hid hsz1
  have haN : a < N := by omega
  have hpN : pivot < N := by omega
  clear hH hblk hN hx hy E hsz1
  go_enter Tryz.func157, Tryz.ntmps157
  go_wp2_with fail
  go_region
  all_goals go_wp2_with fail
  go_loopw [9, 10] (fun v9 v10 wr => ∃ (i j : Nat) (dk : Array Int), v9 = .int .i64 (i : Int) ∧ v10 = .int .i64 (j : Int) ∧ a < i ∧ i ≤ j + 1 ∧ j < b ∧ dk.size = N ∧ At eu w blk off dk wr ∧ partEqLoop ltInt a i j dk = partEqLoop ltInt a (a + 1) (b - 1) d1) (fun v9 v10 _ => ((intOf v10) + 1 - (intOf v9)).toNat)
  case atStart => exact ⟨a + 1, b - 1, d1, by go_num, by go_num, by omega, by omega, by omega, HS1.out, HS0.out 1, rfl⟩
  case round =>
    obtain ⟨i, j, dk, rfl, rfl, hai, hij, hjb, hsk, hA, hO⟩ := hrel
    have HA := Lib.hid hA
    have HO := Lib.hid hO
    have HS := Lib.hid hsk
    clear hA hO hsk
    obtain ⟨G, hG⟩ : ∃ G : Nat → Int, ∀ t, G t = dk[t]! := ⟨fun t => dk[t]!, fun _ => rfl⟩
    have HG := Lib.hid hG
    have HCW : Hid (∀ wr, At eu w blk off dk wr → ∀ t, t < N → wr.cell? ⟨blk, off + t, none⟩ = some (.int .u32 (G t)) ∧ wr.frozen? ⟨blk, off + t, none⟩ = false) := fun wr h t ht => by
      rw [hG]
      exact At.cells h HH.out (HS.out.trans HN.out) HB.out t (by rw [HS.out]; exact ht)
    clear hG
    go_upto_block 2 with fail
    go_cut [9] (fun s wx => ∃ i2 : Nat, s = .int .i64 (i2 : Int) ∧ i ≤ i2 ∧ i2 ≤ j + 1 ∧ At eu w blk off dk wx ∧ i2 = scanUp (fun x => !ltInt dk[a]! x) dk j i)
    case first =>
      go_wp2_with fail
      go_loopw [9] (fun v wq => ∃ i2 : Nat, v = .int .i64 (i2 : Int) ∧ i ≤ i2 ∧ i2 ≤ j + 1 ∧ At eu w blk off dk wq ∧ scanUp (fun x => !ltInt dk[a]! x) dk j i2 = scanUp (fun x => !ltInt dk[a]! x) dk j i) (fun v _ => j + 1 - (intOf v).toNat)
      case atStart => exact ⟨i, rfl, Nat.le_refl _, hij, HA.out, rfl⟩
      case round =>
        obtain ⟨i2, rfl, hi2, hi2j, hA, hO2⟩ := hrel
        have HA1 := Lib.hid hA
        have HO2 := Lib.hid hO2
        have hcw : ∀ t, t < N → wr.cell? ⟨blk, off + t, none⟩ = some (.int .u32 (G t)) := fun t ht => (HCW.out _ hA t ht).1
        have hfw : ∀ t, t < N → wr.frozen? ⟨blk, off + t, none⟩ = false := fun t ht => (HCW.out _ hA t ht).2
        clear hA hO2
        by_cases hb1 : i2 ≤ j
        · have hiN : i2 < N := by omega
          go_wp2_with fail
          go_quiet (first | (go_at_call 156; refine Calls.quiet_of_same (Less_any _ _ _)))
          go_wp2_with fail
          · have hl : ltInt (G a) (G i2) = false := by (have hq : (!ltInt (G a) (G i2)) = true := (by assumption)); simpa using hq
            go_roundw
            case rel =>
              rw [HG.out, HG.out] at hl
              exact ⟨i2 + 1, by go_num, by omega, by omega, At.drewN HA1.out nq, by rw [← HO2.out]; exact (scanUp_go _ dk j i2 hb1 (by simp [hl])).symm⟩
            case measure => simp [intOf]; omega
          · have hl : ltInt (G a) (G i2) = true := by (have hq : (!ltInt (G a) (G i2)) = false := (by assumption)); simpa using hq
            go_meet
            rw [HG.out, HG.out] at hl
            exact ⟨i2, rfl, hi2, hi2j, At.drewN HA1.out nq, by rw [← HO2.out]; exact (scanUp_end _ dk j i2 (Or.inr (by simp [hl]))).symm⟩
        · go_wp2_with fail
          go_quiet (first | (go_at_call 156; refine Calls.quiet_of_same (Less_any _ _ _)))
          go_wp2_with fail
          go_meet
          exact ⟨i2, rfl, hi2, hi2j, At.drewN HA1.out nq, by rw [← HO2.out]; exact (scanUp_end _ dk j i2 (Or.inl hb1)).symm⟩
    case' rest =>
      obtain ⟨i2, rfl, hi2, hi2j, hA, hU⟩ := hcut
      have HA2 := Lib.hid hA
      have HU := Lib.hid hU
      clear hA hU
      go_upto_block 4 with fail
      go_cut [10] (fun s wx => ∃ j2 : Nat, s = .int .i64 (j2 : Int) ∧ j2 ≤ j ∧ i2 ≤ j2 + 1 ∧ At eu w blk off dk wx ∧ j2 = scanDown (fun x => ltInt dk[a]! x) dk i2 j)
      case first =>
        go_wp2_with fail
        go_loopw [10] (fun v wq => ∃ j2 : Nat, v = .int .i64 (j2 : Int) ∧ j2 ≤ j ∧ i2 ≤ j2 + 1 ∧ At eu w blk off dk wq ∧ scanDown (fun x => ltInt dk[a]! x) dk i2 j2 = scanDown (fun x => ltInt dk[a]! x) dk i2 j) (fun v _ => (intOf v).toNat)
        case atStart => exact ⟨j, rfl, Nat.le_refl _, hi2j, HA2.out, rfl⟩
        case round =>
          obtain ⟨j2, rfl, hj2, hij2, hA, hO2⟩ := hrel
          have HA1 := Lib.hid hA
          have HO2 := Lib.hid hO2
          have hcw : ∀ t, t < N → wr.cell? ⟨blk, off + t, none⟩ = some (.int .u32 (G t)) := fun t ht => (HCW.out _ hA t ht).1
          have hfw : ∀ t, t < N → wr.frozen? ⟨blk, off + t, none⟩ = false := fun t ht => (HCW.out _ hA t ht).2
          clear hA hO2
          by_cases hb1 : i2 ≤ j2
          · have hjN : j2 < N := by omega
            have hj0 : 0 < j2 := by omega
            go_wp2_with fail
            go_quiet (first | (go_at_call 156; refine Calls.quiet_of_same (Less_any _ _ _)))
            go_wp2_with fail
            · have hl : ltInt (G a) (G j2) = true := by assumption
              go_roundw
              case rel =>
                rw [HG.out, HG.out] at hl
                exact ⟨j2 - 1, by go_num, by omega, by omega, At.drewN HA1.out nq, by rw [← HO2.out]; exact (scanDown_go _ dk i2 j2 hb1 hj0 (by simp [hl])).symm⟩
              case measure => simp [intOf]; omega
            · have hl : ltInt (G a) (G j2) = false := by assumption
              go_meet
              rw [HG.out, HG.out] at hl
              exact ⟨j2, rfl, hj2, hij2, At.drewN HA1.out nq, by rw [← HO2.out]; exact (scanDown_end _ dk i2 j2 (Or.inr (by simp [hl]))).symm⟩
          · go_wp2_with fail
            go_quiet (first | (go_at_call 156; refine Calls.quiet_of_same (Less_any _ _ _)))
            go_wp2_with fail
            go_meet
            exact ⟨j2, rfl, hj2, hij2, At.drewN HA1.out nq, by rw [← HO2.out]; exact (scanDown_end _ dk i2 j2 (Or.inl hb1)).symm⟩
      case' rest =>
        obtain ⟨j2, rfl, hj2, hij2, hA, hV⟩ := hcut
        have HA3 := Lib.hid hA
        have HV := Lib.hid hV
        have hcw : ∀ t, t < N → wc.cell? ⟨blk, off + t, none⟩ = some (.int .u32 (G t)) := fun t ht => (HCW.out _ hA t ht).1
        have hfw : ∀ t, t < N → wc.frozen? ⟨blk, off + t, none⟩ = false := fun t ht => (HCW.out _ hA t ht).2
        clear hA hV
        by_cases hgt : j2 < i2
        · go_wp2_with fail
          go_ret
          refine ⟨?_, ?_⟩
          · rw [← HO.out, partEq_break ltInt a i j dk HU.out HV.out hgt]; rfl
          · rw [← HO.out, partEq_break ltInt a i j dk HU.out HV.out hgt]; exact HA3.out
        · have hlt : i2 < j2 := scans_lt ltInt a i j dk (by omega) HU.out HV.out (by omega)
          have hi2N : i2 < N := by omega
          have hj2N : j2 < N := by omega
          go_wp2_with fail
          go_region
          all_goals go_wp2_with fail
          go_roundw
          case rel =>
            refine ⟨i2 + 1, j2 - 1, swp dk i2 j2, by go_num, by go_num, by omega, by omega, by omega, by rw [size_swp]; exact HS.out, ?_, by rw [← HO.out, partEq_go ltInt a i j dk HU.out HV.out hgt]⟩
            rw [HG.out, HG.out]
            exact At.swap HA3.out HH.out (HS.out.trans HN.out) HB.out 1 i2 j2 (by rw [HS.out]; omega) (by rw [HS.out]; omega)
          case measure => simp [intOf]; omega
end Go.Proofs.YtbljhjfaimnieaaGreat.su

namespace Go.Proofs.YtbljhjfaimnieaaGreat.su
open Go.Proofs Go.RowKit Go.Sort Go.Proofs.YtbljhjfaimnieaaGreat.kit
set_option linter.unusedVariables false
set_option linter.unusedSimpArgs false
set_option maxRecDepth 100000 in
set_option maxHeartbeats 8000000 in
theorem part_any (blk off cap a b pivot : Nat) (d : Array Int) (N : Nat) (hN : N = d.size) (w : World) (hH : Holds eu w blk off d) (hblk : blk < w.heap.size) (hap : a ≤ pivot) (hpb : pivot < b) (hb : b ≤ N) (hsz : N < 1152921504606846976) :
    Calls Tryz.prog 158 #[.slice (some ⟨blk, off, none⟩) N cap, .int .i64 a, .int .i64 b, .int .i64 pivot] w fun e w' =>
      e = .returned (.tuple #[.int .i64 (partition ltInt d a b pivot).1, .bool (partition ltInt d a b pivot).2.1]) ∧ At eu w blk off (partition ltInt d a b pivot).2.2 w' := by
  have HH := Lib.hid hH
  have HB := Lib.hid hblk
  have HN := Lib.hid hN
  obtain ⟨ca, fa⟩ := hH a (by omega)
  obtain ⟨cp, fp⟩ := hH pivot (by omega)
  obtain ⟨x, hx⟩ : ∃ x : Int, x = d[a]! := ⟨_, rfl⟩
  obtain ⟨y, hy⟩ : ∃ y : Int, y = d[pivot]! := ⟨_, rfl⟩
  have HS0 : Hid (∀ q, At eu w blk off (swp d a pivot) (((w.drewN q).setCell ⟨blk, off + a, none⟩ (eu y)).setCell ⟨blk, off + pivot, none⟩ (eu x))) := fun q => by
    rw [hx, hy]
    exact At.swap (At.refl hH) hH rfl hblk q a pivot (by omega) (by omega)
  replace ca : w.cell? ⟨blk, off + a, none⟩ = some (.int .u32 x) := by rw [hx]; exact ca
  replace cp : w.cell? ⟨blk, off + pivot, none⟩ = some (.int .u32 y) := by rw [hy]; exact cp
  obtain ⟨v', hv'⟩ := cell?_setCell_some (w := w) (p := ⟨blk, off + a, none⟩) (x := .int .u32 y) (q := ⟨blk, off + pivot, none⟩) cp
  have hsz1 : (swp d a pivot).size = N := by rw [size_swp, ← hN]
  have HE1 : Hid (∀ i2 j2, i2 = scanUp (fun x => ltInt x (swp d a pivot)[a]!) (swp d a pivot) (b - 1) (a + 1) → j2 = scanDown (fun x => !ltInt x (swp d a pivot)[a]!) (swp d a pivot) i2 (b - 1) → j2 < i2 → partition ltInt d a b pivot = (j2, true, swp (swp d a pivot) j2 a)) := fun i2 j2 h1 h2 h3 => part_first_break ltInt d a b pivot rfl rfl rfl h1 h2 h3
  have HE2 : Hid (∀ i2 j2, i2 = scanUp (fun x => ltInt x (swp d a pivot)[a]!) (swp d a pivot) (b - 1) (a + 1) → j2 = scanDown (fun x => !ltInt x (swp d a pivot)[a]!) (swp d a pivot) i2 (b - 1) → ¬ i2 > j2 → partition ltInt d a b pivot = ((partLoop ltInt a (i2 + 1) (j2 - 1) (swp (swp d a pivot) i2 j2)).1, false, swp (partLoop ltInt a (i2 + 1) (j2 - 1) (swp (swp d a pivot) i2 j2)).2 (partLoop ltInt a (i2 + 1) (j2 - 1) (swp (swp d a pivot) i2 j2)).1 a)) := fun i2 j2 h1 h2 h3 => part_first_go ltInt d a b pivot rfl rfl rfl h1 h2 h3
  generalize partition ltInt d a b pivot = R at HE1 HE2
  generalize swp d a pivot = dk at HS0 hsz1 HE1 HE2
  have HS := Lib.hid hsz1
  have haN : a < N := by omega
  have hpN : pivot < N := by omega
  obtain ⟨i, hi⟩ : ∃ i, i = a + 1 := ⟨_, rfl⟩
  obtain ⟨j, hj⟩ : ∃ j, j = b - 1 := ⟨_, rfl⟩
  have eI : (a : Int) + 1 = (i : Int) := by omega
  have eJ : (b : Int) - 1 = (j : Int) := by omega
  have hai : a < i := by omega
  have hij : i ≤ j + 1 := by omega
  have hjb : j < b := by omega
  rw [← hi, ← hj] at HE1 HE2
  clear hH hblk hN hx hy hsz1 hi hj
  obtain ⟨G, hG⟩ : ∃ G : Nat → Int, ∀ t, G t = dk[t]! := ⟨fun t => dk[t]!, fun _ => rfl⟩
  have HG := Lib.hid hG
  have HCW : Hid (∀ wr, At eu w blk off dk wr → ∀ t, t < N → wr.cell? ⟨blk, off + t, none⟩ = some (.int .u32 (G t)) ∧ wr.frozen? ⟨blk, off + t, none⟩ = false) := fun wr h t ht => by
    rw [hG]
    exact At.cells h HH.out (HS.out.trans HN.out) HB.out t (by rw [HS.out]; exact ht)
  clear hG
  go_enter Tryz.func158, Tryz.ntmps158
  go_wp2_with fail
  go_region
  have HA : Hid (At eu w blk off dk ((w.setCell ⟨blk, off + a, none⟩ (Value.int .u32 y)).setCell ⟨blk, off + pivot, none⟩ (Value.int .u32 x)).drew) := HS0.out 1
  clear ca fa cp fp hv' HS0
  generalize ((w.setCell ⟨blk, off + a, none⟩ (Value.int .u32 y)).setCell ⟨blk, off + pivot, none⟩ (Value.int .u32 x)).drew = wa at *
  go_upto_block 0 with fail
  go_cut [10] (fun s wx => ∃ i2 : Nat, s = .int .i64 (i2 : Int) ∧ i ≤ i2 ∧ i2 ≤ j + 1 ∧ At eu w blk off dk wx ∧ i2 = scanUp (fun x => ltInt x dk[a]!) dk j i)
  case first =>
    go_wp2_with fail
    go_loopw [10] (fun v wq => ∃ i2 : Nat, v = .int .i64 (i2 : Int) ∧ i ≤ i2 ∧ i2 ≤ j + 1 ∧ At eu w blk off dk wq ∧ scanUp (fun x => ltInt x dk[a]!) dk j i2 = scanUp (fun x => ltInt x dk[a]!) dk j i) (fun v _ => j + 1 - (intOf v).toNat)
    case atStart => exact ⟨i, rfl, Nat.le_refl _, hij, HA.out, rfl⟩
    case round =>
      obtain ⟨i2, rfl, hi2, hi2j, hA, hO2⟩ := hrel
      have HA1 := Lib.hid hA
      have HO2 := Lib.hid hO2
      have hcw : ∀ t, t < N → wr.cell? ⟨blk, off + t, none⟩ = some (.int .u32 (G t)) := fun t ht => (HCW.out _ hA t ht).1
      have hfw : ∀ t, t < N → wr.frozen? ⟨blk, off + t, none⟩ = false := fun t ht => (HCW.out _ hA t ht).2
      clear hA hO2
      by_cases hb1 : i2 ≤ j
      · have hiN : i2 < N := by omega
        go_wp2_with fail
        go_quiet (first | (go_at_call 156; refine Calls.quiet_of_same (Less_any _ _ _)))
        go_wp2_with fail
        · have hl : ltInt (G i2) (G a) = true := by assumption
          go_roundw
          case rel =>
            rw [HG.out, HG.out] at hl
            exact ⟨i2 + 1, by go_num, by omega, by omega, At.drewN HA1.out nq, by rw [← HO2.out]; exact (scanUp_go _ dk j i2 hb1 (by simp [hl])).symm⟩
          case measure => simp [intOf]; omega
        · have hl : ltInt (G i2) (G a) = false := by assumption
          go_meet
          rw [HG.out, HG.out] at hl
          exact ⟨i2, rfl, hi2, hi2j, At.drewN HA1.out nq, by rw [← HO2.out]; exact (scanUp_end _ dk j i2 (Or.inr (by simp [hl]))).symm⟩
      · go_wp2_with fail
        go_quiet (first | (go_at_call 156; refine Calls.quiet_of_same (Less_any _ _ _)))
        go_wp2_with fail
        go_meet
        exact ⟨i2, rfl, hi2, hi2j, At.drewN HA1.out nq, by rw [← HO2.out]; exact (scanUp_end _ dk j i2 (Or.inl hb1)).symm⟩
  case' rest =>
    obtain ⟨i2, rfl, hi2, hi2j, hA, hU⟩ := hcut
    have HA2 := Lib.hid hA
    have HU := Lib.hid hU
    clear hA hU
    go_upto_block 2 with fail
    go_cut [11] (fun s wx => ∃ j2 : Nat, s = .int .i64 (j2 : Int) ∧ j2 ≤ j ∧ i2 ≤ j2 + 1 ∧ At eu w blk off dk wx ∧ j2 = scanDown (fun x => !ltInt x dk[a]!) dk i2 j)
    case first =>
      go_wp2_with fail
      go_loopw [11] (fun v wq => ∃ j2 : Nat, v = .int .i64 (j2 : Int) ∧ j2 ≤ j ∧ i2 ≤ j2 + 1 ∧ At eu w blk off dk wq ∧ scanDown (fun x => !ltInt x dk[a]!) dk i2 j2 = scanDown (fun x => !ltInt x dk[a]!) dk i2 j) (fun v _ => (intOf v).toNat)
      case atStart => exact ⟨j, rfl, Nat.le_refl _, hi2j, HA2.out, rfl⟩
      case round =>
        obtain ⟨j2, rfl, hj2, hij2, hA, hO2⟩ := hrel
        have HA1 := Lib.hid hA
        have HO2 := Lib.hid hO2
        have hcw : ∀ t, t < N → wr.cell? ⟨blk, off + t, none⟩ = some (.int .u32 (G t)) := fun t ht => (HCW.out _ hA t ht).1
        have hfw : ∀ t, t < N → wr.frozen? ⟨blk, off + t, none⟩ = false := fun t ht => (HCW.out _ hA t ht).2
        clear hA hO2
        by_cases hb1 : i2 ≤ j2
        · have hjN : j2 < N := by omega
          have hj0 : 0 < j2 := by omega
          go_wp2_with fail
          go_quiet (first | (go_at_call 156; refine Calls.quiet_of_same (Less_any _ _ _)))
          go_wp2_with fail
          · have hl : ltInt (G j2) (G a) = false := by (have hq : (!ltInt (G j2) (G a)) = true := (by assumption)); simpa using hq
            go_roundw
            case rel =>
              rw [HG.out, HG.out] at hl
              exact ⟨j2 - 1, by go_num, by omega, by omega, At.drewN HA1.out nq, by rw [← HO2.out]; exact (scanDown_go _ dk i2 j2 hb1 hj0 (by simp [hl])).symm⟩
            case measure => simp [intOf]; omega
          · have hl : ltInt (G j2) (G a) = true := by (have hq : (!ltInt (G j2) (G a)) = false := (by assumption)); simpa using hq
            go_meet
            rw [HG.out, HG.out] at hl
            exact ⟨j2, rfl, hj2, hij2, At.drewN HA1.out nq, by rw [← HO2.out]; exact (scanDown_end _ dk i2 j2 (Or.inr (by simp [hl]))).symm⟩
        · go_wp2_with fail
          go_quiet (first | (go_at_call 156; refine Calls.quiet_of_same (Less_any _ _ _)))
          go_wp2_with fail
          go_meet
          exact ⟨j2, rfl, hj2, hij2, At.drewN HA1.out nq, by rw [← HO2.out]; exact (scanDown_end _ dk i2 j2 (Or.inl hb1)).symm⟩
    case' rest =>
      obtain ⟨j2, rfl, hj2, hij2, hA, hV⟩ := hcut
      have HA3 := Lib.hid hA
      have HV := Lib.hid hV
      have hcw : ∀ t, t < N → wc.cell? ⟨blk, off + t, none⟩ = some (.int .u32 (G t)) := fun t ht => (HCW.out _ hA t ht).1
      have hfw : ∀ t, t < N → wc.frozen? ⟨blk, off + t, none⟩ = false := fun t ht => (HCW.out _ hA t ht).2
      clear hA hV
      by_cases hgt : j2 < i2
      · have hj2N : j2 < N := by omega
        obtain ⟨v', hv'⟩ := cell?_setCell_some (w := wc) (p := ⟨blk, off + j2, none⟩) (x := .int .u32 (G a)) (q := ⟨blk, off + a, none⟩) (hcw a haN)
        go_wp2_with fail
        go_region
        all_goals go_wp2_with fail
        go_ret2
        rw [HE1.out i2 j2 HU.out HV.out hgt]
        refine ⟨rfl, ?_⟩
        rw [HG.out, HG.out]
        exact At.swap HA3.out HH.out (HS.out.trans HN.out) HB.out 1 j2 a (by rw [HS.out]; omega) (by rw [HS.out]; omega)
      · have hlt : i2 < j2 := part_scans_lt ltInt a i j dk (by omega) HU.out HV.out (by omega)
        have hi2N : i2 < N := by omega
        have hj2N : j2 < N := by omega
        have HE3 := Lib.hid (HE2.out i2 j2 HU.out HV.out hgt)
        have HSw : Hid (∀ q, At eu w blk off (swp dk i2 j2) (((wc.drewN q).setCell ⟨blk, off + i2, none⟩ (.int .u32 (G j2))).setCell ⟨blk, off + j2, none⟩ (.int .u32 (G i2)))) := fun q => by
          rw [HG.out, HG.out]
          exact At.swap HA3.out HH.out (HS.out.trans HN.out) HB.out q i2 j2 (by rw [HS.out]; omega) (by rw [HS.out]; omega)
        have HS2 : Hid ((swp dk i2 j2).size = N) := by rw [Hid, size_swp]; exact HS.out
        generalize swp dk i2 j2 = d2 at HE3 HSw HS2
        obtain ⟨p, hp⟩ : ∃ p, p = i2 + 1 := ⟨_, rfl⟩
        obtain ⟨q, hq⟩ : ∃ q, q = j2 - 1 := ⟨_, rfl⟩
        rw [← hp, ← hq] at HE3
        have e1 : (i2 : Int) + 1 = (p : Int) := by omega
        have e2 : (j2 : Int) - 1 = (q : Int) := by omega
        have hpa : a < p := by omega
        have hpq : p ≤ q + 1 := by omega
        have hqb : q < b := by omega
        clear hp hq HE1 HE2
        go_wp2_with fail
        go_region
        all_goals go_wp2_with fail
        go_loopw [10, 11] (fun v9 v10 wr => ∃ (i j : Nat) (dk : Array Int), v9 = .int .i64 (i : Int) ∧ v10 = .int .i64 (j : Int) ∧ a < i ∧ i ≤ j + 1 ∧ j < b ∧ dk.size = N ∧ At eu w blk off dk wr ∧ partLoop ltInt a i j dk = partLoop ltInt a p q d2) (fun v9 v10 _ => ((intOf v10) + 1 - (intOf v9)).toNat)
        case atStart => exact ⟨p, q, d2, rfl, rfl, hpa, hpq, hqb, HS2.out, HSw.out 1, rfl⟩
        case round =>
          clear HU HV HA2 HA3 HA HS HSw hcw hfw HCW HG hgt hlt hi2N hj2N hi2 hj2 hij2 hi2j
          obtain ⟨i, j, dk, rfl, rfl, hai, hij, hjb, hsk, hA, hO⟩ := hrel
          have HA := Lib.hid hA
          have HO := Lib.hid hO
          have HS := Lib.hid hsk
          clear hA hO hsk
          obtain ⟨G, hG⟩ : ∃ G : Nat → Int, ∀ t, G t = dk[t]! := ⟨fun t => dk[t]!, fun _ => rfl⟩
          have HG := Lib.hid hG
          have HCW : Hid (∀ wr, At eu w blk off dk wr → ∀ t, t < N → wr.cell? ⟨blk, off + t, none⟩ = some (.int .u32 (G t)) ∧ wr.frozen? ⟨blk, off + t, none⟩ = false) := fun wr h t ht => by
            rw [hG]
            exact At.cells h HH.out (HS.out.trans HN.out) HB.out t (by rw [HS.out]; exact ht)
          clear hG
          go_upto_block 6 with fail
          go_cut [10] (fun s wx => ∃ i2 : Nat, s = .int .i64 (i2 : Int) ∧ i ≤ i2 ∧ i2 ≤ j + 1 ∧ At eu w blk off dk wx ∧ i2 = scanUp (fun x => ltInt x dk[a]!) dk j i)
          case first =>
            go_wp2_with fail
            go_loopw [10] (fun v wq => ∃ i2 : Nat, v = .int .i64 (i2 : Int) ∧ i ≤ i2 ∧ i2 ≤ j + 1 ∧ At eu w blk off dk wq ∧ scanUp (fun x => ltInt x dk[a]!) dk j i2 = scanUp (fun x => ltInt x dk[a]!) dk j i) (fun v _ => j + 1 - (intOf v).toNat)
            case atStart => exact ⟨i, rfl, Nat.le_refl _, hij, HA.out, rfl⟩
            case round =>
              obtain ⟨i2, rfl, hi2, hi2j, hA, hO2⟩ := hrel
              have HA1 := Lib.hid hA
              have HO2 := Lib.hid hO2
              have hcw : ∀ t, t < N → wr.cell? ⟨blk, off + t, none⟩ = some (.int .u32 (G t)) := fun t ht => (HCW.out _ hA t ht).1
              have hfw : ∀ t, t < N → wr.frozen? ⟨blk, off + t, none⟩ = false := fun t ht => (HCW.out _ hA t ht).2
              clear hA hO2
              by_cases hb1 : i2 ≤ j
              · have hiN : i2 < N := by omega
                go_wp2_with fail
                go_quiet (first | (go_at_call 156; refine Calls.quiet_of_same (Less_any _ _ _)))
                go_wp2_with fail
                · have hl : ltInt (G i2) (G a) = true := by assumption
                  go_roundw
                  case rel =>
                    rw [HG.out, HG.out] at hl
                    exact ⟨i2 + 1, by go_num, by omega, by omega, At.drewN HA1.out nq, by rw [← HO2.out]; exact (scanUp_go _ dk j i2 hb1 (by simp [hl])).symm⟩
                  case measure => simp [intOf]; omega
                · have hl : ltInt (G i2) (G a) = false := by assumption
                  go_meet
                  rw [HG.out, HG.out] at hl
                  exact ⟨i2, rfl, hi2, hi2j, At.drewN HA1.out nq, by rw [← HO2.out]; exact (scanUp_end _ dk j i2 (Or.inr (by simp [hl]))).symm⟩
              · go_wp2_with fail
                go_quiet (first | (go_at_call 156; refine Calls.quiet_of_same (Less_any _ _ _)))
                go_wp2_with fail
                go_meet
                exact ⟨i2, rfl, hi2, hi2j, At.drewN HA1.out nq, by rw [← HO2.out]; exact (scanUp_end _ dk j i2 (Or.inl hb1)).symm⟩
          case' rest =>
            obtain ⟨i2, rfl, hi2, hi2j, hA, hU⟩ := hcut
            have HA2 := Lib.hid hA
            have HU := Lib.hid hU
            clear hA hU
            go_upto_block 8 with fail
            go_cut [11] (fun s wx => ∃ j2 : Nat, s = .int .i64 (j2 : Int) ∧ j2 ≤ j ∧ i2 ≤ j2 + 1 ∧ At eu w blk off dk wx ∧ j2 = scanDown (fun x => !ltInt x dk[a]!) dk i2 j)
            case first =>
              go_wp2_with fail
              go_loopw [11] (fun v wq => ∃ j2 : Nat, v = .int .i64 (j2 : Int) ∧ j2 ≤ j ∧ i2 ≤ j2 + 1 ∧ At eu w blk off dk wq ∧ scanDown (fun x => !ltInt x dk[a]!) dk i2 j2 = scanDown (fun x => !ltInt x dk[a]!) dk i2 j) (fun v _ => (intOf v).toNat)
              case atStart => exact ⟨j, rfl, Nat.le_refl _, hi2j, HA2.out, rfl⟩
              case round =>
                obtain ⟨j2, rfl, hj2, hij2, hA, hO2⟩ := hrel
                have HA1 := Lib.hid hA
                have HO2 := Lib.hid hO2
                have hcw : ∀ t, t < N → wr.cell? ⟨blk, off + t, none⟩ = some (.int .u32 (G t)) := fun t ht => (HCW.out _ hA t ht).1
                have hfw : ∀ t, t < N → wr.frozen? ⟨blk, off + t, none⟩ = false := fun t ht => (HCW.out _ hA t ht).2
                clear hA hO2
                by_cases hb1 : i2 ≤ j2
                · have hjN : j2 < N := by omega
                  have hj0 : 0 < j2 := by omega
                  go_wp2_with fail
                  go_quiet (first | (go_at_call 156; refine Calls.quiet_of_same (Less_any _ _ _)))
                  go_wp2_with fail
                  · have hl : ltInt (G j2) (G a) = false := by (have hq : (!ltInt (G j2) (G a)) = true := (by assumption)); simpa using hq
                    go_roundw
                    case rel =>
                      rw [HG.out, HG.out] at hl
                      exact ⟨j2 - 1, by go_num, by omega, by omega, At.drewN HA1.out nq, by rw [← HO2.out]; exact (scanDown_go _ dk i2 j2 hb1 hj0 (by simp [hl])).symm⟩
                    case measure => simp [intOf]; omega
                  · have hl : ltInt (G j2) (G a) = true := by (have hq : (!ltInt (G j2) (G a)) = false := (by assumption)); simpa using hq
                    go_meet
                    rw [HG.out, HG.out] at hl
                    exact ⟨j2, rfl, hj2, hij2, At.drewN HA1.out nq, by rw [← HO2.out]; exact (scanDown_end _ dk i2 j2 (Or.inr (by simp [hl]))).symm⟩
                · go_wp2_with fail
                  go_quiet (first | (go_at_call 156; refine Calls.quiet_of_same (Less_any _ _ _)))
                  go_wp2_with fail
                  go_meet
                  exact ⟨j2, rfl, hj2, hij2, At.drewN HA1.out nq, by rw [← HO2.out]; exact (scanDown_end _ dk i2 j2 (Or.inl hb1)).symm⟩
            case' rest =>
              obtain ⟨j2, rfl, hj2, hij2, hA, hV⟩ := hcut
              have HA3 := Lib.hid hA
              have HV := Lib.hid hV
              have hcw : ∀ t, t < N → wc.cell? ⟨blk, off + t, none⟩ = some (.int .u32 (G t)) := fun t ht => (HCW.out _ hA t ht).1
              have hfw : ∀ t, t < N → wc.frozen? ⟨blk, off + t, none⟩ = false := fun t ht => (HCW.out _ hA t ht).2
              clear hA hV
              by_cases hgt : j2 < i2
              · have hj2N : j2 < N := by omega
                obtain ⟨v', hv'⟩ := cell?_setCell_some (w := wc) (p := ⟨blk, off + j2, none⟩) (x := .int .u32 (G a)) (q := ⟨blk, off + a, none⟩) (hcw a haN)
                have HF : Hid (partLoop ltInt a p q d2 = (j2, dk)) := by rw [Hid, ← HO.out]; exact part_break ltInt a i j dk HU.out HV.out hgt
                go_wp2_with fail
                go_region
                all_goals go_wp2_with fail
                go_ret2
                rw [HE3.out, HF.out]
                refine ⟨rfl, ?_⟩
                rw [HG.out, HG.out]
                exact At.swap HA3.out HH.out (HS.out.trans HN.out) HB.out 1 j2 a (by rw [HS.out]; omega) (by rw [HS.out]; omega)
              · have hlt : i2 < j2 := part_scans_lt ltInt a i j dk (by omega) HU.out HV.out (by omega)
                have hi2N : i2 < N := by omega
                have hj2N : j2 < N := by omega
                go_wp2_with fail
                go_region
                all_goals go_wp2_with fail
                go_roundw
                case rel =>
                  refine ⟨i2 + 1, j2 - 1, swp dk i2 j2, by go_num, by go_num, by omega, by omega, by omega, by rw [size_swp]; exact HS.out, ?_, by rw [← HO.out, part_go ltInt a i j dk HU.out HV.out hgt]⟩
                  rw [HG.out, HG.out]
                  exact At.swap HA3.out HH.out (HS.out.trans HN.out) HB.out 1 i2 j2 (by rw [HS.out]; omega) (by rw [HS.out]; omega)
                case measure => simp [intOf]; omega
end Go.Proofs.YtbljhjfaimnieaaGreat.su

namespace Go.Proofs.YtbljhjfaimnieaaGreat.su
open Go.Proofs Go.RowKit Go.Sort Go.Proofs.YtbljhjfaimnieaaGreat.kit
set_option linter.unusedVariables false
set_option linter.unusedSimpArgs false
set_option maxRecDepth 100000 in
set_option maxHeartbeats 8000000 in
theorem pi_any (blk off cap a b : Nat) (d : Array Int) (N : Nat) (hN : N = d.size) (w : World) (hH : Holds eu w blk off d) (hblk : blk < w.heap.size) (hab : a < b) (hb : b ≤ N) (hsz : N < 1152921504606846976) :
    Calls Tryz.prog 155 #[.slice (some ⟨blk, off, none⟩) N cap, .int .i64 a, .int .i64 b] w fun e w' =>
      e = .returned (.bool (partialInsertionSort ltInt d a b).2) ∧ At eu w blk off (partialInsertionSort ltInt d a b).1 w' := by
  have HH := Lib.hid hH
  have HB := Lib.hid hblk
  have HN := Lib.hid hN
  have E : partialInsertionSort ltInt d a b = partialIns ltInt a b (5 - 0) (a + 1) d := rfl
  rw [E]
  obtain ⟨L, hL⟩ : ∃ L, L = b - a := ⟨_, rfl⟩
  have eL : (b : Int) - (a : Int) = (L : Int) := by omega
  have HL := Lib.hid hL
  clear E hH hblk hN hL
  go_enter Tryz.func155, Tryz.ntmps155
  go_wp2_with fail
  go_loopw [7, 8] (fun vi vs wr => ∃ (i s : Nat) (dk : Array Int), vi = .int .i64 (i : Int) ∧ vs = .int .i64 (s : Int) ∧ s ≤ 5 ∧ a < i ∧ i ≤ b ∧ dk.size = N ∧ At eu w blk off dk wr ∧ partialIns ltInt a b (5 - s) i dk = partialIns ltInt a b (5 - 0) (a + 1) d) (fun _ vs _ => 5 - (intOf vs).toNat)
  case atStart => exact ⟨a + 1, 0, d, by go_num, by go_num, by omega, by omega, by omega, HN.out.symm, At.refl HH.out, rfl⟩
  case round =>
    obtain ⟨i, s, dk, rfl, rfl, hs5, hai, hib, hsk, hA, hO⟩ := hrel
    have HA := Lib.hid hA
    have HO := Lib.hid hO
    have HS := Lib.hid hsk
    clear hA hO
    by_cases hs : s < 5
    · obtain ⟨G, hG⟩ : ∃ G : Nat → Int, ∀ t, G t = dk[t]! := ⟨fun t => dk[t]!, fun _ => rfl⟩
      have HG := Lib.hid hG
      have HCW : Hid (∀ wr, At eu w blk off dk wr → ∀ t, t < N → wr.cell? ⟨blk, off + t, none⟩ = some (.int .u32 (G t)) ∧ wr.frozen? ⟨blk, off + t, none⟩ = false) := fun wr h t ht => by
        rw [hG]
        exact At.cells h HH.out (hsk.trans HN.out) HB.out t (by rw [hsk]; exact ht)
      clear hG hsk
      go_wp2_with fail
      go_loopw [7] (fun v wq => ∃ k : Nat, v = .int .i64 (k : Int) ∧ i ≤ k ∧ k ≤ b ∧ At eu w blk off dk wq ∧ scanSorted ltInt dk b k = scanSorted ltInt dk b i) (fun v _ => b - (intOf v).toNat)
      case atStart => exact ⟨i, rfl, Nat.le_refl _, hib, HA.out, rfl⟩
      case round =>
        obtain ⟨k, rfl, hik, hkb, hA, hO2⟩ := hrel
        have HA1 := Lib.hid hA
        have HO2 := Lib.hid hO2
        have hcw : ∀ t, t < N → wr.cell? ⟨blk, off + t, none⟩ = some (.int .u32 (G t)) := fun t ht => (HCW.out _ hA t ht).1
        have hfw : ∀ t, t < N → wr.frozen? ⟨blk, off + t, none⟩ = false := fun t ht => (HCW.out _ hA t ht).2
        clear hA hO2
        by_cases hk : k < b
        · have hkN : k < N := by omega
          have q1 : (k : Int) - 1 < (N : Int) := by omega
          go_wp2_with fail
          go_quiet (first | (go_at_call 156; refine Calls.quiet_of_same (Less_any _ _ _)))
          go_upto_if 37 with fail
          · have hl : ltInt (G k) (G (k - 1)) = false := by (have hq : (!ltInt (G k) (G (k - 1))) = true := (by assumption)); simpa using hq
            go_roundw
            case rel =>
              rw [HG.out, HG.out] at hl
              exact ⟨k + 1, by go_num, by omega, by omega, At.drewN HA1.out nq, by rw [← HO2.out]; exact (scanSorted_go ltInt dk b k hk hl).symm⟩
            case measure => simp [intOf]; omega
          · have hl : ltInt (G k) (G (k - 1)) = true := by (have hq : (!ltInt (G k) (G (k - 1))) = false := (by assumption)); simpa using hq
            rw [HG.out, HG.out] at hl
            have HK : Hid (scanSorted ltInt dk b i = k) := by rw [Hid, ← HO2.out]; exact scanSorted_stop ltInt dk b k (Or.inr hl)
            have hne : ((k : Int) == (b : Int)) = false := by simp; omega
            clear hl
            have HA2 := Lib.hid (At.drewN HA1.out nq)
            have hcw2 : ∀ t, t < N → (wr.drewN nq).cell? ⟨blk, off + t, none⟩ = some (.int .u32 (G t)) := hcw
            have hfw2 : ∀ t, t < N → (wr.drewN nq).frozen? ⟨blk, off + t, none⟩ = false := hfw
            clear hcw hfw HA1 HA
            generalize wr.drewN nq = wq at *
            by_cases h50 : L < 50
            · have q50 : decide ((L : Int) < 50) = true := by simp; omega
              go_wp2_with fail
              go_ret
              rw [← HO.out, pi_short ltInt a b s i dk hs (by rw [HK.out]; omega) (by rw [← HL.out]; exact h50)]
              exact ⟨rfl, HA2.out⟩
            · have q50 : decide ((L : Int) < 50) = false := by simp; omega
              have HGo : Hid (partialIns ltInt a b (5 - (s + 1)) k (fixUp ltInt b k (fixDown ltInt a k (swp dk k (k - 1)))) = partialIns ltInt a b (5 - 0) (a + 1) d) := by
                rw [Hid, ← HO.out, pi_go ltInt a b s i k dk hs HK.out (by omega) (by rw [← HL.out]; exact h50)]
              have HSw : Hid (∀ q, At eu w blk off (swp dk k (k - 1)) (((wq.drewN q).setCell ⟨blk, off + k, none⟩ (.int .u32 (G (k - 1)))).setCell ⟨blk, off + (k - 1), none⟩ (.int .u32 (G k)))) := fun q => by
                rw [HG.out, HG.out]
                exact At.swap HA2.out HH.out (HS.out.trans HN.out) HB.out q k (k - 1) (by rw [HS.out]; omega) (by rw [HS.out]; omega)
              have HS1 : Hid ((swp dk k (k - 1)).size = N) := by rw [Hid, size_swp]; exact HS.out
              clear HO HO2 HK HG
              generalize swp dk k (k - 1) = d1 at HGo HSw HS1
              have hk1 : 1 ≤ k := by omega
              go_wp2_with fail
              go_region
              have HA3 : Hid (At eu w blk off d1 ((wq.setCell ⟨blk, off + k, none⟩ (.int .u32 (G (k - 1)))).setCell ⟨blk, off + (k - 1), none⟩ (.int .u32 (G k))).drew) := HSw.out 1
              clear HSw hcw2 hfw2 HA2
              generalize ((wq.setCell ⟨blk, off + k, none⟩ (.int .u32 (G (k - 1)))).setCell ⟨blk, off + (k - 1), none⟩ (.int .u32 (G k))).drew = w3 at *
              go_upto_if 61 with fail
              go_cut [] (fun wx => ∃ (d2 : Array Int), At eu w blk off d2 wx ∧ d2.size = N ∧ d2 = fixDown ltInt a k d1)
              case first =>
                by_cases h2 : k - a ≥ 2
                · have q2 : decide ((2 : Int) ≤ (k : Int) - (a : Int)) = true := by simp; omega
                  have HF : Hid (fixDown ltInt a k d1 = shiftDown ltInt (k - 1) d1) := if_pos h2
                  go_wp2_with fail
                  go_loopw [9] (fun v wq => ∃ (t : Nat) (dj : Array Int), v = .int .i64 (t : Int) ∧ t ≤ k - 1 ∧ dj.size = N ∧ At eu w blk off dj wq ∧ shiftDown ltInt t dj = shiftDown ltInt (k - 1) d1) (fun v _ => (intOf v).toNat)
                  case atStart => exact ⟨k - 1, d1, by go_num, Nat.le_refl _, HS1.out, HA3.out, rfl⟩
                  case round =>
                    obtain ⟨t, dj, rfl, htj, hsj, hA, hO2⟩ := hrel
                    have HA4 := Lib.hid hA
                    have HO4 := Lib.hid hO2
                    have HSj := Lib.hid hsj
                    obtain ⟨F, hF⟩ : ∃ F : Nat → Int, ∀ t, F t = dj[t]! := ⟨fun t => dj[t]!, fun _ => rfl⟩
                    have hcw : ∀ t, t < N → wr.cell? ⟨blk, off + t, none⟩ = some (.int .u32 (F t)) := fun t ht => by rw [hF]; exact (At.cells hA HH.out (hsj.trans HN.out) HB.out t (by rw [hsj]; exact ht)).1
                    have hfw : ∀ t, t < N → wr.frozen? ⟨blk, off + t, none⟩ = false := fun t ht => (At.cells hA HH.out (hsj.trans HN.out) HB.out t (by rw [hsj]; exact ht)).2
                    have HFF := Lib.hid hF
                    clear hA hO2 hsj hF
                    by_cases ht1 : 1 ≤ t
                    · have htN : t < N := by omega
                      have q3 : (t : Int) - 1 < (N : Int) := by omega
                      go_wp2_with fail
                      go_quiet (first | (go_at_call 156; refine Calls.quiet_of_same (Less_any _ _ _)))
                      go_wp2_with fail
                      · have hl : ltInt (F t) (F (t - 1)) = false := by (have hq : (!ltInt (F t) (F (t - 1))) = true := (by assumption)); simpa using hq
                        rw [HFF.out, HFF.out] at hl
                        go_meet
                        exact ⟨dj, At.drewN HA4.out nq, HSj.out, by rw [HF.out, ← HO4.out]; exact (shiftDown_stop ltInt t dj (Or.inr hl)).symm⟩
                      · have hl : ltInt (F t) (F (t - 1)) = true := by (have hq : (!ltInt (F t) (F (t - 1))) = false := (by assumption)); simpa using hq
                        rw [HFF.out, HFF.out] at hl
                        have HLt := Lib.hid hl
                        clear hl
                        have HA5 := Lib.hid (At.drewN HA4.out nq)
                        have hcw2 : ∀ t, t < N → (wr.drewN nq).cell? ⟨blk, off + t, none⟩ = some (.int .u32 (F t)) := hcw
                        have hfw2 : ∀ t, t < N → (wr.drewN nq).frozen? ⟨blk, off + t, none⟩ = false := hfw
                        clear hcw hfw
                        generalize wr.drewN nq = wz at *
                        go_region
                        all_goals go_wp2_with fail
                        go_roundw
                        case rel =>
                          refine ⟨t - 1, swp dj t (t - 1), by go_num, by omega, by rw [size_swp]; exact HSj.out, ?_, by rw [← HO4.out, shiftDown_go ltInt t dj ht1 HLt.out]⟩
                          rw [HFF.out, HFF.out]
                          exact At.swap HA5.out HH.out (HSj.out.trans HN.out) HB.out 1 t (t - 1) (by rw [HSj.out]; omega) (by rw [HSj.out]; omega)
                        case measure => simp [intOf]; omega
                    · obtain rfl : t = 0 := by omega
                      go_wp2_with fail
                      go_meet
                      exact ⟨dj, HA4.out, HSj.out, by rw [HF.out, ← HO4.out]; exact (shiftDown_stop ltInt 0 dj (Or.inl rfl)).symm⟩
                · have q2 : decide ((2 : Int) ≤ (k : Int) - (a : Int)) = false := by simp; omega
                  go_wp2_with fail
                  go_meet
                  exact ⟨d1, HA3.out, HS1.out, (if_neg h2).symm⟩
              case' rest =>
                obtain ⟨d2, hA, hs2, hd2⟩ := hcut
                have HA6 := Lib.hid hA
                have HS2 := Lib.hid hs2
                rw [← hd2] at HGo
                clear hA hs2 hd2 HA3 HS1
                by_cases h2 : b - k ≥ 2
                · have q2 : decide ((2 : Int) ≤ (b : Int) - (k : Int)) = true := by simp; omega
                  have HF : Hid (fixUp ltInt b k d2 = shiftUp ltInt b (k + 1) d2) := if_pos h2
                  go_wp2_with fail
                  go_loopw [10] (fun v wq => ∃ (t : Nat) (dj : Array Int), v = .int .i64 (t : Int) ∧ k + 1 ≤ t ∧ t ≤ b ∧ dj.size = N ∧ At eu w blk off dj wq ∧ shiftUp ltInt b t dj = shiftUp ltInt b (k + 1) d2) (fun v _ => b - (intOf v).toNat)
                  case atStart => exact ⟨k + 1, d2, by go_num, Nat.le_refl _, by omega, HS2.out, HA6.out, rfl⟩
                  case round =>
                    obtain ⟨t, dj, rfl, hkt, htb, hsj, hA, hO2⟩ := hrel
                    have HA4 := Lib.hid hA
                    have HO4 := Lib.hid hO2
                    have HSj := Lib.hid hsj
                    obtain ⟨F, hF⟩ : ∃ F : Nat → Int, ∀ t, F t = dj[t]! := ⟨fun t => dj[t]!, fun _ => rfl⟩
                    have hcw : ∀ t, t < N → wr.cell? ⟨blk, off + t, none⟩ = some (.int .u32 (F t)) := fun t ht => by rw [hF]; exact (At.cells hA HH.out (hsj.trans HN.out) HB.out t (by rw [hsj]; exact ht)).1
                    have hfw : ∀ t, t < N → wr.frozen? ⟨blk, off + t, none⟩ = false := fun t ht => (At.cells hA HH.out (hsj.trans HN.out) HB.out t (by rw [hsj]; exact ht)).2
                    have HFF := Lib.hid hF
                    clear hA hO2 hsj hF
                    by_cases ht1 : t < b
                    · have htN : t < N := by omega
                      have q3 : (t : Int) - 1 < (N : Int) := by omega
                      go_wp2_with fail
                      go_quiet (first | (go_at_call 156; refine Calls.quiet_of_same (Less_any _ _ _)))
                      go_wp2_with fail
                      · have hl : ltInt (F t) (F (t - 1)) = false := by (have hq : (!ltInt (F t) (F (t - 1))) = true := (by assumption)); simpa using hq
                        rw [HFF.out, HFF.out] at hl
                        have HE : Hid (fixUp ltInt b k d2 = dj) := by rw [Hid, HF.out, ← HO4.out]; exact shiftUp_stop ltInt b t dj (Or.inr hl)
                        clear hl
                        go_wp2_with fail
                        go_roundw
                        case rel => exact ⟨k, s + 1, dj, rfl, by go_num, by omega, by omega, by omega, HSj.out, At.drewN HA4.out nq, by rw [← HE.out]; exact HGo.out⟩
                        case measure => simp [intOf]; omega
                      · have hl : ltInt (F t) (F (t - 1)) = true := by (have hq : (!ltInt (F t) (F (t - 1))) = false := (by assumption)); simpa using hq
                        rw [HFF.out, HFF.out] at hl
                        have HLt := Lib.hid hl
                        clear hl
                        have HA5 := Lib.hid (At.drewN HA4.out nq)
                        have hcw2 : ∀ t, t < N → (wr.drewN nq).cell? ⟨blk, off + t, none⟩ = some (.int .u32 (F t)) := hcw
                        have hfw2 : ∀ t, t < N → (wr.drewN nq).frozen? ⟨blk, off + t, none⟩ = false := hfw
                        clear hcw hfw
                        generalize wr.drewN nq = wz at *
                        go_region
                        all_goals go_wp2_with fail
                        go_roundw
                        case rel =>
                          refine ⟨t + 1, swp dj t (t - 1), by go_num, by omega, by omega, by rw [size_swp]; exact HSj.out, ?_, by rw [← HO4.out, shiftUp_go ltInt b t dj ht1 HLt.out]⟩
                          rw [HFF.out, HFF.out]
                          exact At.swap HA5.out HH.out (HSj.out.trans HN.out) HB.out 1 t (t - 1) (by rw [HSj.out]; omega) (by rw [HSj.out]; omega)
                        case measure => simp [intOf]; omega
                    · go_wp2_with fail
                      have HE : Hid (fixUp ltInt b k d2 = dj) := by rw [Hid, HF.out, ← HO4.out]; exact shiftUp_stop ltInt b t dj (Or.inl ht1)
                      go_wp2_with fail
                      go_roundw
                      case rel => exact ⟨k, s + 1, dj, rfl, by go_num, by omega, by omega, by omega, HSj.out, HA4.out, by rw [← HE.out]; exact HGo.out⟩
                      case measure => simp [intOf]; omega
                · have q2 : decide ((2 : Int) ≤ (b : Int) - (k : Int)) = false := by simp; omega
                  go_wp2_with fail
                  go_roundw
                  case rel => exact ⟨k, s + 1, d2, rfl, by go_num, by omega, by omega, by omega, HS2.out, HA6.out, by have := HGo.out; rw [show fixUp ltInt b k d2 = d2 from if_neg h2] at this; exact this⟩
                  case measure => simp [intOf]; omega
        · obtain rfl : k = b := by omega
          go_wp2_with fail
          go_quiet (first | (go_at_call 156; refine Calls.quiet_of_same (Less_any _ _ _)))
          go_wp2_with fail
          go_ret
          rw [← HO.out, pi_true ltInt a k s i dk hs (by rw [← HO2.out]; exact scanSorted_stop ltInt dk k k (Or.inl hk))]
          exact ⟨rfl, At.drewN HA1.out nq⟩
    · obtain rfl : s = 5 := by omega
      go_wp2_with fail
      go_ret
      rw [← HO.out]
      exact ⟨rfl, HA.out⟩
end Go.Proofs.YtbljhjfaimnieaaGreat.su

namespace Go.Proofs.YtbljhjfaimnieaaGreat.su
open Go.Proofs Go.RowKit Go.Sort Go.Proofs.YtbljhjfaimnieaaGreat.kit
set_option linter.unusedVariables false
set_option linter.unusedSimpArgs false
/-- the counter, in another block, turned: the numbers are as they were -/
theorem aside {w : World} {blk off sb n t : Nat} {d : Array Int} (h : Holds eu w blk off d) (hne : sb ≠ blk) : Holds eu (putRow (Value.int .i64) (Sort.ahead w n) sb 0 (one t)) blk off d := fun j hj => by
  refine ⟨?_, ?_⟩
  · rw [cell?_putRow_other _ _ _ _ _ _ (Or.inl (Ne.symm hne))]; exact (h j hj).1
  · rw [frozen?_putRow]; exact (h j hj).2
set_option maxRecDepth 100000 in
set_option maxHeartbeats 2000000 in
theorem order2_any (d : Array Int) (N : Nat) (hN : N = d.size) (blk off cap a b sb s : Nat) (w : World) (hH : Holds eu w blk off d) (ha : a < N) (hb : b < N) (hS : Holds (Value.int .i64) w sb 0 (one s)) (hs : s < 1000) :
    Calls Tryz.prog 163 #[.slice (some ⟨blk, off, none⟩) N cap, .int .i64 a, .int .i64 b, .pointer (some ⟨sb, 0, none⟩)] w fun e w' =>
      e = .returned (.tuple #[.int .i64 (order2 ltInt d a b s).1, .int .i64 (order2 ltInt d a b s).2.1]) ∧ ∃ n, w' = putRow (Value.int .i64) (Sort.ahead w n) sb 0 (one (order2 ltInt d a b s).2.2) := by
  have HN := Lib.hid hN
  have ca := (hH a (by omega)).1
  have cb := (hH b (by omega)).1
  obtain ⟨cs, fs⟩ := one_cell hS
  obtain ⟨x, hx⟩ : ∃ x : Int, x = d[a]! := ⟨_, rfl⟩
  obtain ⟨y, hy⟩ : ∃ y : Int, y = d[b]! := ⟨_, rfl⟩
  have eo : order2 ltInt d a b s = if ltInt y x then (b, a, s + 1) else (a, b, s) := by rw [hx, hy]; rfl
  have HS := Lib.hid hS
  replace ca : w.cell? ⟨blk, off + a, none⟩ = some (.int .u32 x) := by rw [hx]; exact ca
  replace cb : w.cell? ⟨blk, off + b, none⟩ = some (.int .u32 y) := by rw [hy]; exact cb
  have HE := Lib.hid eo
  clear hx hy hH hS hN eo HN
  go_enter Tryz.func163, Tryz.ntmps163
  go_wp2_with fail
  go_quiet (first | (go_at_call 156; refine Calls.quiet_of_same (Less_any _ _ _)))
  go_wp2_with fail
  · have hl : ltInt y x = true := by assumption
    go_ret2
    rw [HE.out, hl]
    refine ⟨rfl, nq, ?_⟩
    rw [putRow_ahead]
    show _ = Sort.ahead (putRow (Value.int .i64) w sb 0 (one (s + 1))) nq
    rw [← one_set HS.out (s + 1)]
    rfl
  · have hl : ltInt y x = false := by assumption
    go_ret2
    rw [HE.out, hl]
    refine ⟨rfl, nq, ?_⟩
    rw [putRow_ahead]
    show _ = Sort.ahead (putRow (Value.int .i64) w sb 0 (one s)) nq
    rw [putRow_self _ _ _ _ _ HS.out]
    rfl
end Go.Proofs.YtbljhjfaimnieaaGreat.su

namespace Go.Proofs.YtbljhjfaimnieaaGreat.su
open Go.Proofs Go.RowKit Go.Sort Go.Proofs.YtbljhjfaimnieaaGreat.kit
set_option linter.unusedVariables false
set_option linter.unusedSimpArgs false
set_option maxRecDepth 100000 in
set_option maxHeartbeats 4000000 in
theorem median_any (d : Array Int) (N : Nat) (hN : N = d.size) (blk off cap a b c sb s : Nat) (w : World) (hH : Holds eu w blk off d) (hne : sb ≠ blk) (ha : a < N) (hb : b < N) (hc : c < N) (hS : Holds (Value.int .i64) w sb 0 (one s)) (hs : s < 900) :
    Calls Tryz.prog 162 #[.slice (some ⟨blk, off, none⟩) N cap, .int .i64 a, .int .i64 b, .int .i64 c, .pointer (some ⟨sb, 0, none⟩)] w fun e w' =>
      e = .returned (.int .i64 (median ltInt d a b c s).1) ∧ ∃ n, w' = putRow (Value.int .i64) (Sort.ahead w n) sb 0 (one (median ltInt d a b c s).2) := by
  have O1 := order2_any d N hN blk off cap a b sb s w hH ha hb hS (by omega)
  have l1 := order2_lt d s ha hb
  have t1 := order2_swaps d a b s
  obtain ⟨x1, y1, s1, e1⟩ : ∃ x y t, order2 ltInt d a b s = (x, y, t) := ⟨_, _, _, rfl⟩
  rw [e1] at O1 l1 t1
  simp only [] at O1 l1 t1
  have l2 := order2_lt d s1 l1.2 hc
  have t2 := order2_swaps d y1 c s1
  have O2 := fun n => order2_any d N hN blk off cap y1 c sb s1 _ (aside (n := n) (t := s1) hH hne) l1.2 hc (holds_one (n := n) (t := s1) hS) (by omega)
  obtain ⟨x2, y2, s2, e2⟩ : ∃ x y t, order2 ltInt d y1 c s1 = (x, y, t) := ⟨_, _, _, rfl⟩
  rw [e2] at O2 l2 t2
  simp only [] at O2 l2 t2
  have O3 := fun n m => order2_any d N hN blk off cap x1 x2 sb s2 _ (aside (n := m) (t := s2) (aside (n := n) (t := s1) hH hne) hne) l1.1 l2.1 (holds_one (n := m) (t := s2) (holds_one (n := n) (t := s1) hS)) (by omega)
  obtain ⟨x3, y3, s3, e3⟩ : ∃ x y t, order2 ltInt d x1 x2 s2 = (x, y, t) := ⟨_, _, _, rfl⟩
  rw [e3] at O3
  have em : median ltInt d a b c s = (y3, s3) := by
    unfold median
    simp only [e1, e2, e3]
  rw [em]
  simp only [] at O3 ⊢
  have HO1 := Lib.hid O1
  have HO2 := Lib.hid O2
  have HO3 := Lib.hid O3
  clear O1 O2 O3 em l1 t1 l2 t2 hH hS e1 e2 e3 hN hs hne ha hb hc
  go_enter Tryz.func162, Tryz.ntmps162
  go_wp2_with (go_at_call_of 163 (Value.int .i64 (b : Int)); refine HO1.out.mono ?_; rintro e w' ⟨rfl, n1, rfl⟩)
  go_wp2_with (go_at_call_of 163 (Value.int .i64 (c : Int)); refine (HO2.out n1).mono ?_; rintro e w' ⟨rfl, n2, rfl⟩)
  go_wp2_with (go_at_call_of 163 (Value.int .i64 (x1 : Int)); refine (HO3.out n1 n2).mono ?_; rintro e w' ⟨rfl, n3, rfl⟩)
  go_ret
  refine ⟨rfl, n1 + (n2 + n3), ?_⟩
  rw [one_one, one_one]
set_option maxRecDepth 100000 in
set_option maxHeartbeats 4000000 in
theorem adjacent_any (d : Array Int) (N : Nat) (hN : N = d.size) (blk off cap a sb s : Nat) (w : World) (hH : Holds eu w blk off d) (hne : sb ≠ blk) (ha : 1 ≤ a) (hb : a + 1 < N) (hsz : N < 1152921504606846976) (hS : Holds (Value.int .i64) w sb 0 (one s)) (hs : s < 900) :
    Calls Tryz.prog 161 #[.slice (some ⟨blk, off, none⟩) N cap, .int .i64 a, .pointer (some ⟨sb, 0, none⟩)] w fun e w' =>
      e = .returned (.int .i64 (medianAdjacent ltInt d a s).1) ∧ ∃ n, w' = putRow (Value.int .i64) (Sort.ahead w n) sb 0 (one (medianAdjacent ltInt d a s).2) := by
  have O1 := median_any d N hN blk off cap (a - 1) a (a + 1) sb s w hH hne (by omega) (by omega) (by omega) hS hs
  rw [show ((a - 1 : Nat) : Int) = (a : Int) - 1 by omega, show ((a + 1 : Nat) : Int) = (a : Int) + 1 by omega] at O1
  have em : medianAdjacent ltInt d a s = median ltInt d (a - 1) a (a + 1) s := rfl
  rw [em]
  obtain ⟨x, t, e1⟩ : ∃ x t, median ltInt d (a - 1) a (a + 1) s = (x, t) := ⟨_, _, rfl⟩
  rw [e1] at O1 ⊢
  simp only [] at O1 ⊢
  have HO1 := Lib.hid O1
  clear O1 em hH hS e1 hN hs hne
  go_enter Tryz.func161, Tryz.ntmps161
  go_wp2_with (go_at_call 162; refine HO1.out.mono ?_; rintro e w' ⟨rfl, n1, rfl⟩)
  go_ret
  exact ⟨rfl, n1, rfl⟩
end Go.Proofs.YtbljhjfaimnieaaGreat.su

namespace Go.Proofs.YtbljhjfaimnieaaGreat.su
open Go.Proofs Go.RowKit Go.Sort Go.Proofs.YtbljhjfaimnieaaGreat.kit
set_option linter.unusedVariables false
set_option linter.unusedSimpArgs false
/-- behind w there is the counter's new block, which says s -/
def Cw (w : World) (s : Nat) (wr : World) : Prop := ∃ n, wr = putRow (Value.int .i64) (Sort.ahead (w.alloc (.cells #[.int .i64 0] 3)) n) w.heap.size 0 (one s)
section
variable {w wr w2 : World} {s t : Nat}
theorem held0 (w : World) : Holds (Value.int .i64) (w.alloc (.cells #[.int .i64 0] 3)) w.heap.size 0 (one 0) := fun j hj => by
  obtain rfl : j = 0 := by simpa using hj
  simp
theorem Cw.start (w : World) : Cw w 0 (w.alloc (.cells #[.int .i64 0] 3)) := ⟨0, by rw [show Sort.ahead (w.alloc (.cells #[.int .i64 0] 3)) 0 = w.alloc (.cells #[.int .i64 0] 3) from rfl, putRow_self _ _ _ _ _ (held0 w)]⟩
theorem Cw.holds (h : Cw w s wr) : Holds (Value.int .i64) wr w.heap.size 0 (one s) := by
  obtain ⟨n, rfl⟩ := h
  exact holds_one (held0 w)
theorem Cw.row {blk off : Nat} {d : Array Int} (h : Cw w s wr) (hb : blk < w.heap.size) (hH : Holds eu w blk off d) : Holds eu wr blk off d := by
  obtain ⟨n, rfl⟩ := h
  exact aside (by rw [alloc_eq_grow]; exact holds_grow _ _ _ _ _ _ hb hH) (by omega)
theorem Cw.on (h : Cw w s wr) (h2 : ∃ m, w2 = putRow (Value.int .i64) (Sort.ahead wr m) w.heap.size 0 (one t)) : Cw w t w2 := by
  obtain ⟨n, rfl⟩ := h
  obtain ⟨m, rfl⟩ := h2
  exact ⟨n + m, by rw [one_one]⟩
theorem Cw.grown (h : Cw w s wr) : ∃ n os, wr = grow (Sort.ahead w n) os := by
  obtain ⟨n, rfl⟩ := h
  obtain ⟨os, h⟩ := counter_grow w n s
  exact ⟨n, os, h⟩
theorem hint0 (h : ((s : Int) == 0) = true) : hintCode (hintOf s) = 1 := by
  have : s = 0 := by simpa using h
  rw [this]; rfl
theorem hint12 (h : ((s : Int) == 12) = true) : hintCode (hintOf s) = 2 := by
  have : s = 12 := by have := eq_of_beq h; omega
  rw [this]; rfl
theorem hintx (h : ((s : Int) == 0) = false) (k : ((s : Int) == 12) = false) : hintCode (hintOf s) = 0 := by
  have h1 : s ≠ 0 := by rintro rfl; simp at h
  have h2 : s ≠ 12 := by rintro rfl; simp at k
  unfold hintOf; rw [if_neg h1, if_neg h2]; rfl
end
set_option maxRecDepth 100000 in
set_option maxHeartbeats 8000000 in
theorem pivot_any (blk off cap a b : Nat) (d : Array Int) (N : Nat) (hN : N = d.size) (w : World) (hH : Holds eu w blk off d) (hblk : blk < w.heap.size) (hab : a < b) (hb : b ≤ N) (hsz : N < 1152921504606846976) :
    Calls Tryz.prog 153 #[.slice (some ⟨blk, off, none⟩) N cap, .int .i64 a, .int .i64 b] w fun e w' =>
      e = .returned (.tuple #[.int .i64 (choosePivot ltInt d a b).1, .int .i64 (hintCode (choosePivot ltInt d a b).2)]) ∧ ∃ n os, w' = grow (Sort.ahead w n) os := by
  have hne : w.heap.size ≠ blk := by omega
  have MA : ∀ {wr : World} (s x : Nat), Cw w s wr → 1 ≤ x → x + 1 < N → s < 900 → Calls Tryz.prog 161 #[.slice (some ⟨blk, off, none⟩) N cap, .int .i64 (x : Int), .pointer (some ⟨w.heap.size, 0, none⟩)] wr fun e w' =>
        e = .returned (.int .i64 ((medianAdjacent ltInt d x s).1 : Int)) ∧ Cw w (medianAdjacent ltInt d x s).2 w' := fun s x h h1 h2 hs =>
    (adjacent_any d N hN blk off cap x w.heap.size s _ (h.row hblk hH) hne h1 h2 hsz h.holds hs).mono fun _ _ ⟨he, hw⟩ => ⟨he, h.on hw⟩
  have MD : ∀ {wr : World} (s x y z : Nat), Cw w s wr → x < N → y < N → z < N → s < 900 → Calls Tryz.prog 162 #[.slice (some ⟨blk, off, none⟩) N cap, .int .i64 (x : Int), .int .i64 (y : Int), .int .i64 (z : Int), .pointer (some ⟨w.heap.size, 0, none⟩)] wr fun e w' =>
        e = .returned (.int .i64 ((median ltInt d x y z s).1 : Int)) ∧ Cw w (median ltInt d x y z s).2 w' := fun s x y z h h1 h2 h3 hs =>
    (median_any d N hN blk off cap x y z w.heap.size s _ (h.row hblk hH) hne h1 h2 h3 h.holds hs).mono fun _ _ ⟨he, hw⟩ => ⟨he, h.on hw⟩
  clear hH hN hne
  have HC : Hid (∀ (s : Nat) (wr : World), Cw w s wr → wr.cell? ⟨w.heap.size, 0, none⟩ = some (.int .i64 (s : Int))) := fun s wr h => (one_cell h.holds).1
  have HG : Hid (∀ (s : Nat) (wr : World), Cw w s wr → ∃ n os, wr = grow (Sort.ahead w n) os) := fun s wr h => h.grown
  have W0 : Hid (Cw w 0 (w.alloc (.cells #[.int .i64 0] 3))) := Cw.start w
  rw [choosePivot_eq]
  obtain ⟨L, hL⟩ : ∃ L, L = b - a := ⟨_, rfl⟩
  have eL : (b : Int) - (a : Int) = (L : Int) := by omega
  obtain ⟨q, hq⟩ : ∃ q, q = L / 4 := ⟨_, rfl⟩
  have hq4 : 4 * q ≤ L := by omega
  have hq5 : L < 4 * q + 4 := by omega
  have eq : (L : Int) / 4 = (q : Int) := by omega
  have hraw : rawPivot ltInt d a b = (if L ≥ 8 then if L ≥ 50 then median ltInt d (medianAdjacent ltInt d (a + q * 1) 0).1 (medianAdjacent ltInt d (a + q * 2) (medianAdjacent ltInt d (a + q * 1) 0).2).1 (medianAdjacent ltInt d (a + q * 3) (medianAdjacent ltInt d (a + q * 2) (medianAdjacent ltInt d (a + q * 1) 0).2).2).1 (medianAdjacent ltInt d (a + q * 3) (medianAdjacent ltInt d (a + q * 2) (medianAdjacent ltInt d (a + q * 1) 0).2).2).2
      else median ltInt d (a + q * 1) (a + q * 2) (a + q * 3) 0 else (a + q * 2, 0)) := by rw [hq, hL]; rfl
  have hLN : a + L ≤ N := by omega
  clear hL hq
  by_cases h8 : L ≥ 8
  · by_cases h50 : L ≥ 50
    · rw [if_pos h8, if_pos h50] at hraw
      have m1 := medianAdjacent_mem ltInt d (a + q * 1) 0
      have n1 := medianAdjacent_count ltInt d (a + q * 1) 0
      have C1 := Lib.hid (fun (wr : World) h => MA (wr := wr) 0 (a + q * 1) h (by omega) (by omega) (by omega))
      generalize medianAdjacent ltInt d (a + q * 1) 0 = p1 at hraw m1 n1 C1
      obtain ⟨i1, s1⟩ := p1
      simp only [] at hraw m1 n1 C1
      have m2 := medianAdjacent_mem ltInt d (a + q * 2) s1
      have n2 := medianAdjacent_count ltInt d (a + q * 2) s1
      have C2 := Lib.hid (fun (wr : World) h => MA (wr := wr) s1 (a + q * 2) h (by omega) (by omega) (by omega))
      generalize medianAdjacent ltInt d (a + q * 2) s1 = p2 at hraw m2 n2 C2
      obtain ⟨i2, s2⟩ := p2
      simp only [] at hraw m2 n2 C2
      have m3 := medianAdjacent_mem ltInt d (a + q * 3) s2
      have n3 := medianAdjacent_count ltInt d (a + q * 3) s2
      have C3 := Lib.hid (fun (wr : World) h => MA (wr := wr) s2 (a + q * 3) h (by omega) (by omega) (by omega))
      generalize medianAdjacent ltInt d (a + q * 3) s2 = p3 at hraw m3 n3 C3
      obtain ⟨i3, s3⟩ := p3
      simp only [] at hraw m3 n3 C3
      have C4 := Lib.hid (fun (wr : World) h => MD (wr := wr) s3 i1 i2 i3 h (by omega) (by omega) (by omega) (by omega))
      rw [hraw]
      generalize median ltInt d i1 i2 i3 s3 = p4 at C4
      obtain ⟨p, s⟩ := p4
      simp only [] at C4
      have HHint := Lib.hid (And.intro (hint0 (s := s)) (And.intro (hint12 (s := s)) (hintx (s := s))))
      show Calls _ _ _ _ fun e w' => e = .returned (.tuple #[.int .i64 (p : Int), .int .i64 (hintCode (hintOf s))]) ∧ _
      generalize hintCode (hintOf s) = hc at HHint
      obtain ⟨I, hI⟩ : ∃ I : Nat, I = a + q * 1 := ⟨_, rfl⟩
      obtain ⟨J, hJ⟩ : ∃ J : Nat, J = a + q * 2 := ⟨_, rfl⟩
      obtain ⟨K, hK⟩ : ∃ K : Nat, K = a + q * 3 := ⟨_, rfl⟩
      have e1 : (a : Int) + (q : Int) = (I : Int) := by omega
      have e2 : (a : Int) + (q : Int) * 2 = (J : Int) := by omega
      have e3 : (a : Int) + (q : Int) * 3 = (K : Int) := by omega
      rw [← hI] at C1; rw [← hJ] at C2; rw [← hK] at C3
      clear MA MD hI hJ hK m1 m2 m3 n1 n2 n3 hraw hq4 hq5
      go_enter Tryz.func153, Tryz.ntmps153
      go_wp2_with (go_at_call_of 161 (Value.int .i64 (I : Int)); refine (C1.out _ W0.out).mono ?_; rintro e w1 ⟨rfl, k1⟩)
      replace k1 := Lib.hid k1
      go_wp2_with (go_at_call_of 161 (Value.int .i64 (J : Int)); refine (C2.out _ k1.out).mono ?_; rintro e w2 ⟨rfl, k2⟩)
      replace k2 := Lib.hid k2
      go_wp2_with (go_at_call_of 161 (Value.int .i64 (K : Int)); refine (C3.out _ k2.out).mono ?_; rintro e w3 ⟨rfl, k3⟩)
      replace k3 := Lib.hid k3
      go_wp2_with (go_at_call 162; refine (C4.out _ k3.out).mono ?_; rintro e w4 ⟨rfl, k4⟩; have k5 := HC.out _ _ k4; replace k4 := Lib.hid k4)
      all_goals
        go_ret2
        refine ⟨?_, HG.out _ _ k4.out⟩
        first
          | (rw [HHint.out.1 (by assumption)]; rfl)
          | (rw [HHint.out.2.1 (by assumption)]; rfl)
          | (rw [HHint.out.2.2 (by assumption) (by assumption)]; rfl)
    · rw [if_pos h8, if_neg h50] at hraw
      have C4 := Lib.hid (fun (wr : World) h => MD (wr := wr) 0 (a + q * 1) (a + q * 2) (a + q * 3) h (by omega) (by omega) (by omega) (by omega))
      rw [hraw]
      generalize median ltInt d (a + q * 1) (a + q * 2) (a + q * 3) 0 = p4 at C4
      obtain ⟨p, s⟩ := p4
      simp only [] at C4
      have HHint := Lib.hid (And.intro (hint0 (s := s)) (And.intro (hint12 (s := s)) (hintx (s := s))))
      show Calls _ _ _ _ fun e w' => e = .returned (.tuple #[.int .i64 (p : Int), .int .i64 (hintCode (hintOf s))]) ∧ _
      generalize hintCode (hintOf s) = hc at HHint
      obtain ⟨I, hI⟩ : ∃ I : Nat, I = a + q * 1 := ⟨_, rfl⟩
      obtain ⟨J, hJ⟩ : ∃ J : Nat, J = a + q * 2 := ⟨_, rfl⟩
      obtain ⟨K, hK⟩ : ∃ K : Nat, K = a + q * 3 := ⟨_, rfl⟩
      have e1 : (a : Int) + (q : Int) = (I : Int) := by omega
      have e2 : (a : Int) + (q : Int) * 2 = (J : Int) := by omega
      have e3 : (a : Int) + (q : Int) * 3 = (K : Int) := by omega
      rw [← hI, ← hJ, ← hK] at C4
      clear MA MD hI hJ hK hraw hq4 hq5
      go_enter Tryz.func153, Tryz.ntmps153
      go_wp2_with (go_at_call 162; refine (C4.out _ W0.out).mono ?_; rintro e w4 ⟨rfl, k4⟩; have k5 := HC.out _ _ k4; replace k4 := Lib.hid k4)
      all_goals
        go_ret2
        refine ⟨?_, HG.out _ _ k4.out⟩
        first
          | (rw [HHint.out.1 (by assumption)]; rfl)
          | (rw [HHint.out.2.1 (by assumption)]; rfl)
          | (rw [HHint.out.2.2 (by assumption) (by assumption)]; rfl)
  · rw [if_neg h8] at hraw
    rw [hraw]
    obtain ⟨J, hJ⟩ : ∃ J : Nat, J = a + q * 2 := ⟨_, rfl⟩
    have e2 : (a : Int) + (q : Int) * 2 = (J : Int) := by omega
    show Calls _ _ _ _ fun e w' => e = .returned (.tuple #[.int .i64 ((a + q * 2 : Nat) : Int), .int .i64 1]) ∧ _
    rw [← hJ]
    clear MA MD hJ hraw hq4 hq5
    go_enter Tryz.func153, Tryz.ntmps153
    go_wp2_with fail
    all_goals
      go_ret2
      exact ⟨rfl, HG.out _ _ W0.out⟩
end Go.Proofs.YtbljhjfaimnieaaGreat.su

namespace Go.Proofs
open Go.Shelf
set_option linter.unusedVariables false
def Tryz.lays129_ren : Go.Shelf.Ren := ⟨fun | 129 => 116 | n => n, fun | 53 => 77 | 3 => 3 | 4 => 4 | 46 => 54 | 5 => 5 | 9 => 9 | n => n, fun | n => n⟩
theorem Tryz.lays129 : Go.Proofs.Lays.n129 Tryz.prog Tryz.lays129_ren := {
  mixed := by kernel_rfl
  f129 := Tryz.func116.trans (congrArg some (by kernel_rfl))
  t3 := Tryz.underlying3
  a3 := Tryz.isAgg3
  z3 := Tryz.sizeOf3
  v3 := Tryz.zeroValue3
  t4 := Tryz.underlying4
  a4 := Tryz.isAgg4
  z4 := Tryz.sizeOf4
  v4 := Tryz.zeroValue4
  t5 := Tryz.underlying5
  a5 := Tryz.isAgg5
  z5 := Tryz.sizeOf5
  v5 := Tryz.zeroValue5
  t9 := Tryz.underlying9
  a9 := Tryz.isAgg9
  z9 := Tryz.sizeOf9
  v9 := Tryz.zeroValue9
  t46 := Tryz.underlying54
  a46 := Tryz.isAgg54
  z46 := Tryz.sizeOf54
  v46 := Tryz.zeroValue54
  t53 := Tryz.underlying77
  a53 := Tryz.isAgg77
  z53 := Tryz.sizeOf77
  v53 := Tryz.zeroValue77 }
theorem Tryz.bits_Len64 (x : Int) (w : World) (h0 : 0 ≤ x) (h1 : x ≤ 18446744073709551615) :
    Calls Tryz.prog 116 #[.int .u64 x] w fun e w' => e = .returned (.int .i64 (Lib.bitLen x.toNat)) ∧ w' = w := Any.bits_Len64 Tryz.lays129 x w h0 h1
end Go.Proofs

namespace Go.Proofs.YtbljhjfaimnieaaGreat.su
open Go.Proofs Go.RowKit Go.Sort Go.Proofs.YtbljhjfaimnieaaGreat.kit
set_option linter.unusedVariables false
set_option linter.unusedSimpArgs false
section
variable {w wr : World} {blk off g : Nat} {d : Array Int}
/-- a store into a block made later -/
theorem At.apart (h : At eu w blk off d wr) (hg : w.heap.size ≤ g) (v : Value) : At eu w blk off d (wr.setCell ⟨g, 0, none⟩ v) := by
  obtain ⟨n, os, rfl⟩ := h
  exact ⟨n, _, by rw [setCell_eq, mapBlock_grow_new _ _ _ _ (by simpa using hg)]⟩
theorem At.more (h : At eu w blk off d wr) (o : Obj) : At eu w blk off d (wr.alloc o) := by
  obtain ⟨n, os, rfl⟩ := h
  exact ⟨n, os ++ #[o], by rw [alloc_eq_grow, grow_grow]⟩
end
theorem and64 (x m : Nat) (hx : x < 18446744073709551616) (hm : m < 18446744073709551616) : bits .and .u64 (x : Int) (m : Int) = ((x &&& m : Nat) : Int) := bits_and_u64_nat _ _ hx hm
set_option maxHeartbeats 2000000 in
set_option maxRecDepth 100000 in
theorem next_any (g X : Nat) (hX : X < 18446744073709551616) (w : World) (hc : w.cell? ⟨g, 0, none⟩ = some (.int .u64 X)) (hf : w.frozen? ⟨g, 0, none⟩ = false) :
    Calls Tryz.prog 135 #[.pointer (some ⟨g, 0, none⟩)] w fun e w' => ∃ y : Nat, y < 18446744073709551616 ∧ e = .returned (.int .u64 (y : Int)) ∧ ∃ n, w' = (w.setCell ⟨g, 0, none⟩ (.int .u64 (y : Int))).drewN n := by
  have e1 : ∃ A : Nat, A < 18446744073709551616 ∧ A = X ^^^ (X * 8192 % 18446744073709551616) ∧ bits .xor .u64 (X : Int) (IntKind.u64.wrap ((X : Int) * 8192)) = (A : Int) :=
    ⟨_, Nat.xor_lt_two_pow (n := 64) (by omega) (by omega), rfl, by rw [IntKind.wrap_u64, show ((X : Int) * 8192 % 18446744073709551616) = ((X * 8192 % 18446744073709551616 : Nat) : Int) by omega, bits_xor_u64_nat _ _ hX (by omega)]⟩
  obtain ⟨A, lA, dA, eA⟩ := e1
  have e2 : ∃ B : Nat, B < 18446744073709551616 ∧ B = A ^^^ (A / 128) ∧ bits .xor .u64 (A : Int) ((A : Int) / 128) = (B : Int) :=
    ⟨_, Nat.xor_lt_two_pow (n := 64) (by omega) (by omega), rfl, by rw [show ((A : Int) / 128) = ((A / 128 : Nat) : Int) by omega, bits_xor_u64_nat _ _ lA (by omega)]⟩
  obtain ⟨B, lB, dB, eB⟩ := e2
  have e3 : ∃ C : Nat, C < 18446744073709551616 ∧ bits .xor .u64 (B : Int) (IntKind.u64.wrap ((B : Int) * 131072)) = (C : Int) :=
    ⟨B ^^^ (B * 131072 % 18446744073709551616), Nat.xor_lt_two_pow (n := 64) (by omega) (by omega), by rw [IntKind.wrap_u64, show ((B : Int) * 131072 % 18446744073709551616) = ((B * 131072 % 18446744073709551616 : Nat) : Int) by omega, bits_xor_u64_nat _ _ lB (by omega)]⟩
  obtain ⟨C, lC, eC⟩ := e3
  clear dA dB
  have hss : ∀ v v', (w.setCell ⟨g, 0, none⟩ v).setCell ⟨g, 0, none⟩ v' = w.setCell ⟨g, 0, none⟩ v' := setCell_setCell w g 0
  go_enter Tryz.func135, Tryz.ntmps135
  go_wp2_with fail
  go_region
  all_goals go_wp2_with fail
  all_goals go_region
  all_goals go_wp2_with fail
  all_goals go_region
  all_goals go_wp2_with fail
  go_ret
  exact ⟨C, lC, rfl, 3, rfl⟩
set_option maxHeartbeats 2000000 in
theorem pow_any (n : Nat) (hn : n < 4611686018427387904) (w : World) :
    Calls Tryz.prog 134 #[.int .i64 n] w fun e w' => e = .returned (.int .u64 ((1 <<< bitsLen n : Nat) : Int)) ∧ w' = w := by
  have hk : bitsLen n ≤ 62 := (bitsLen_le_iff n 62).2 (by omega)
  have hp := wrap_two_pow (bitsLen n) hk
  have hL : Hid (∀ w, Calls Tryz.prog 116 #[.int .u64 (n : Int)] w fun e w' => e = .returned (.int .i64 (bitsLen n : Nat)) ∧ w' = w) := fun w => by
    have h := Tryz.bits_Len64 (n : Int) w (by omega) (by omega)
    rwa [Int.toNat_natCast, bitLen_eq _ (by omega)] at h
  have hLen : Hid (∀ w, Calls Tryz.prog 89 #[.int .u64 (n : Int)] w fun e w' => e = .returned (.int .i64 (bitsLen n : Nat)) ∧ w' = w) := fun w => by
    go_enter Tryz.func89, Tryz.ntmps89
    go_wp2_with (go_at_call 116; refine (hL.out _).mono ?_; rintro e w' ⟨rfl, rfl⟩)
    go_ret
    exact ⟨rfl, rfl⟩
  go_enter Tryz.func134, Tryz.ntmps134
  go_wp2_with (go_at_call 89; refine (hLen.out _).mono ?_; rintro e w' ⟨rfl, rfl⟩)
  go_ret
  exact ⟨rfl, rfl⟩
set_option maxHeartbeats 4000000 in
set_option maxRecDepth 100000 in
theorem break_any (blk off cap a b : Nat) (d : Array Int) (N : Nat) (hN : N = d.size) (w : World) (hH : Holds eu w blk off d) (hblk : blk < w.heap.size) (hab : a ≤ b) (hb : b ≤ N) (hsz : N < 1152921504606846976) :
    Calls Tryz.prog 152 #[.slice (some ⟨blk, off, none⟩) N cap, .int .i64 a, .int .i64 b] w fun e w' =>
      e = .returned (.tuple #[]) ∧ ∃ R, At eu w blk off R w' ∧ PermIn a b d R := by
  have HH := Lib.hid hH
  have HB := Lib.hid hblk
  have HN := Lib.hid hN
  obtain ⟨L, hL⟩ : ∃ L, b = a + L := ⟨b - a, by omega⟩
  have eL : (b : Int) - (a : Int) = (L : Int) := by omega
  have HLb := Lib.hid hL
  by_cases h8 : 8 ≤ L
  · obtain ⟨M, hM⟩ : ∃ M : Nat, M = 1 <<< bitsLen L := ⟨_, rfl⟩
    have hM1 : 1 ≤ M := by rw [hM, Nat.one_shiftLeft]; exact Nat.two_pow_pos _
    have hM2 : M ≤ 2 * L := by rw [hM, Nat.one_shiftLeft]; exact two_pow_bitsLen_le (by omega)
    have HP : Hid (∀ w, Calls Tryz.prog 134 #[.int .i64 (L : Int)] w fun e w' => e = .returned (.int .u64 (M : Int)) ∧ w' = w) := by rw [hM]; exact fun w => pow_any L (by omega) w
    obtain ⟨I, hI⟩ : ∃ I : Nat, I = a + L / 4 * 2 - 1 := ⟨_, rfl⟩
    have eI : (a : Int) + (L : Int) / 4 * 2 - 1 = (I : Int) := by omega
    have eI2 : (a : Int) + (L : Int) / 4 * 2 + 1 = (I : Int) + 2 := by omega
    obtain ⟨M1, hM1e⟩ : ∃ M1 : Nat, M = M1 + 1 := ⟨M - 1, by omega⟩
    have eM : (M : Int) - 1 = (M1 : Int) := by omega
    have hMM : M1 < 2 * L := by omega
    have hIl : a ≤ I := by omega
    have hIu : I + 3 ≤ a + L := by omega
    have hbL : a + L ≤ N := by omega
    have HS : Hid (At eu w blk off d (w.alloc (.cells #[.int .u64 (L : Int)] 133))) := At.more (At.refl hH) _
    clear hH hM hL hN hI hM1e hM1 hM2
    go_enter Tryz.func152, Tryz.ntmps152
    go_wp2_with (go_at_call 134; refine (HP.out _).mono ?_; rintro e w' ⟨rfl, rfl⟩)
    clear HP
    go_loopw [9, 10] (fun v9 _ wr => ∃ (t r : Nat) (dk : Array Int), v9 = .int .i64 ((I + t : Nat) : Int) ∧ t ≤ 3 ∧ r < 18446744073709551616 ∧ At eu w blk off dk wr ∧ wr.cell? ⟨w.heap.size, 0, none⟩ = some (.int .u64 (r : Int)) ∧ wr.frozen? ⟨w.heap.size, 0, none⟩ = false ∧ w.heap.size < wr.heap.size ∧ PermIn a b d dk) (fun v9 _ _ => I + 3 - (intOf v9).toNat)
    case atStart => exact ⟨0, L, d, by simp, by omega, by omega, HS.out, by simp, by simp, by simp, permIn_refl _ _ _⟩
    case round =>
      obtain ⟨t, r, dk, rfl, ht, hr, hA, hc, hf, hsz2, hP⟩ := hrel
      have HA := Lib.hid hA
      have HP := Lib.hid hP
      have HSz : Hid (dk.size = N) := by rw [Hid, hP.1]; exact HN.out.symm
      clear hA hP
      obtain ⟨i, hi⟩ : ∃ i : Nat, i = I + t := ⟨_, rfl⟩
      rw [← hi]
      have Hi := Lib.hid hi
      by_cases h3 : t < 3
      · have hd1 : (i : Int) ≤ (I : Int) + 2 := by omega
        have hiN : i < N := by omega
        have HNx := Lib.hid (next_any w.heap.size r hr wr hc hf)
        have HCf := Lib.hid (And.intro hc hf)
        clear hi hc hf
        have haz : a + L ≤ N := hbL
        go_upto_if 43 with (go_at_call 135; refine HNx.out.mono ?_; rintro e w1 ⟨y, hy, rfl, n1, rfl⟩; have hand := and64 y M1 hy (by omega); obtain ⟨o, ho⟩ : ∃ o, o = y &&& M1 := ⟨_, rfl⟩; have hoM : o ≤ M1 := (by rw [ho]; exact Nat.and_le_right); rw [← ho] at hand; clear ho)
        have HA1 : Hid (At eu w blk off dk ((wr.setCell ⟨w.heap.size, 0, none⟩ (.int .u64 (y : Int))).drewN n1)) := At.drewN (At.apart HA.out (Nat.le_refl _) _) n1
        have HC1 : Hid (((wr.setCell ⟨w.heap.size, 0, none⟩ (.int .u64 (y : Int))).drewN n1).cell? ⟨w.heap.size, 0, none⟩ = some (.int .u64 (y : Int))) :=
          World.cell?_setCell_same (u := .int .u64 (r : Int)) wr _ _ HCf.out.1
        have HF1 : Hid (((wr.setCell ⟨w.heap.size, 0, none⟩ (.int .u64 (y : Int))).drewN n1).frozen? ⟨w.heap.size, 0, none⟩ = false) := by
          show _ = _
          simp [HCf.out.2]
        have HZ1 : Hid (w.heap.size < ((wr.setCell ⟨w.heap.size, 0, none⟩ (.int .u64 (y : Int))).drewN n1).heap.size) := by
          show _ < _
          simpa [World.setCell] using hsz2
        generalize (wr.setCell ⟨w.heap.size, 0, none⟩ (.int .u64 (y : Int))).drewN n1 = w3 at *
        go_cut [10] (fun s wx => ∃ z : Nat, s = .int .i64 (z : Int) ∧ z < L ∧ wx = w3)
        case first =>
          by_cases hLO : L ≤ o
          · go_wp2_with fail
            go_meet
            exact ⟨o - L, by go_num, by omega, rfl⟩
          · go_wp2_with fail
            go_meet
            exact ⟨o, rfl, by omega, rfl⟩
        case' rest =>
          obtain ⟨z, rfl, hz, rfl⟩ := hcut
          obtain ⟨k, hk⟩ : ∃ k : Nat, k = a + z := ⟨_, rfl⟩
          have ek : (a : Int) + (z : Int) = (k : Int) := by omega
          have hkN : k < N := by omega
          obtain ⟨G, hG⟩ : ∃ G : Nat → Int, ∀ t, G t = dk[t]! := ⟨fun t => dk[t]!, fun _ => rfl⟩
          have HG := Lib.hid hG
          have hcw : ∀ t, t < N → wc.cell? ⟨blk, off + t, none⟩ = some (.int .u32 (G t)) := fun t ht => by rw [hG]; exact (At.cells HA1.out HH.out (HSz.out.trans HN.out) HB.out t (by rw [HSz.out]; exact ht)).1
          have hfw : ∀ t, t < N → wc.frozen? ⟨blk, off + t, none⟩ = false := fun t ht => (At.cells HA1.out HH.out (HSz.out.trans HN.out) HB.out t (by rw [HSz.out]; exact ht)).2
          have hca : a ≤ k := by omega
          have hck : k < a + L := by omega
          have hia : a ≤ i := by have := Hi.out; omega
          have hib : i < a + L := by have := Hi.out; omega
          have hbe : b = a + L := HLb.out
          have HAs : Hid (∀ q, At eu w blk off (swp dk i k) (((wc.drewN q).setCell ⟨blk, off + i, none⟩ (.int .u32 (G k))).setCell ⟨blk, off + k, none⟩ (.int .u32 (G i)))) := fun q => by
            rw [hG, hG]
            exact At.swap HA1.out HH.out (HSz.out.trans HN.out) HB.out q i k (by rw [HSz.out]; exact hiN) (by rw [HSz.out]; exact hkN)
          have HPs : Hid (PermIn a b d (swp dk i k)) := permIn_trans _ _ _ a b HP.out (swp_permIn dk a b i k hia (by rw [hbe]; exact hib) hca (by rw [hbe]; exact hck) (by rw [HSz.out]; omega))
          have hne : w.heap.size ≠ blk := Nat.ne_of_gt HB.out
          have HCs : Hid (∀ q u v, (((wc.drewN q).setCell ⟨blk, off + i, none⟩ u).setCell ⟨blk, off + k, none⟩ v).cell? ⟨w.heap.size, 0, none⟩ = some (.int .u64 (y : Int)) ∧ (((wc.drewN q).setCell ⟨blk, off + i, none⟩ u).setCell ⟨blk, off + k, none⟩ v).frozen? ⟨w.heap.size, 0, none⟩ = false ∧ w.heap.size < (((wc.drewN q).setCell ⟨blk, off + i, none⟩ u).setCell ⟨blk, off + k, none⟩ v).heap.size) := fun q u v => by
            refine ⟨?_, ?_, by simpa [World.setCell] using HZ1.out⟩
            · rw [World.cell?_setCell_far _ _ _ _ (Ne.symm hne), World.cell?_setCell_far _ _ _ _ (Ne.symm hne)]
              exact HC1.out
            · have := HF1.out
              simp at this ⊢
              exact this
          obtain ⟨v', hv'⟩ := cell?_setCell_some (w := wc) (p := ⟨blk, off + i, none⟩) (x := .int .u32 (G k)) (q := ⟨blk, off + k, none⟩) (hcw k hkN)
          clear hG hk hbe hia hib hca hck
          go_wp2_with fail
          go_region
          all_goals go_wp2_with fail
          go_roundw
          case rel => exact ⟨t + 1, y, swp dk i k, by have := Hi.out; congr 1; omega, by omega, hy, HAs.out 1, (HCs.out 1 _ _).1, (HCs.out 1 _ _).2.1, (HCs.out 1 _ _).2.2, HPs.out⟩
          case measure => have := Hi.out; simp [intOf]; omega
      · have hd1 : ¬ (i : Int) ≤ (I : Int) + 2 := by omega
        clear hi
        go_wp2_with fail
        go_end0
        exact ⟨rfl, dk, HA.out, HP.out⟩
  · clear hH hN hL
    go_enter Tryz.func152, Tryz.ntmps152
    go_wp2_with fail
    go_end0
    exact ⟨rfl, d, At.refl HH.out, permIn_refl _ _ _⟩
end Go.Proofs.YtbljhjfaimnieaaGreat.su

namespace Go.Proofs.YtbljhjfaimnieaaGreat.su
open Go.Proofs Go.RowKit Go.Sort Go.Proofs.YtbljhjfaimnieaaGreat.kit
set_option linter.unusedVariables false
set_option linter.unusedSimpArgs false
section
variable {w wr w' : World} {blk off cap a b N : Nat} {d d' : Array Int}
theorem At.on (h : At eu w blk off d wr) (hb : blk < w.heap.size) (h2 : At eu wr blk off d' w') (hs : d'.size = d.size) : At eu w blk off d' w' := by
  obtain ⟨m, os, e⟩ := h2
  exact h.stepG hb hs ⟨m, os, e⟩
/-- the row of N numbers that says d -/
def Say (w : World) (blk off N : Nat) (d : Array Int) : Prop := Holds eu w blk off d ∧ blk < w.heap.size ∧ d.size = N ∧ N < 1152921504606846976
theorem Say.at_ (h : Say w blk off N d) (h2 : At eu w blk off d' w') (hs : d'.size = d.size) : Say w' blk off N d' := by
  obtain ⟨h1, h3⟩ := h2.holds h.1 hs h.2.1
  exact ⟨h1, h3, hs.trans h.2.2.1, h.2.2.2⟩
end
abbrev sl (blk off N cap : Nat) : Value := .slice (some ⟨blk, off, none⟩) N cap
section
variable {w : World} {blk off cap a b N : Nat} {d : Array Int}
theorem c_ins (h : Say w blk off N d) (hab : a ≤ b) (hb : b ≤ N) : Calls Tryz.prog 150 #[sl blk off N cap, .int .i64 a, .int .i64 b] w fun e w' =>
    e = .returned (.tuple #[]) ∧ ∃ R, At eu w blk off R w' ∧ PermIn a b d R ∧ SortedIn ltInt a b R := by
  obtain ⟨h1, h2, h3, h4⟩ := h
  obtain ⟨p, s⟩ := insertionSort_holds swo_ltInt d a b hab (by omega)
  have := ins_any blk off cap a b d w h1 h2 hab (by omega) (by omega)
  rw [h3] at this
  exact this.mono fun e w' ⟨he, hA⟩ => ⟨he, _, hA, p, s⟩
theorem c_heap (h : Say w blk off N d) (hab : a ≤ b) (hb : b ≤ N) : Calls Tryz.prog 151 #[sl blk off N cap, .int .i64 a, .int .i64 b] w fun e w' =>
    e = .returned (.tuple #[]) ∧ ∃ R, At eu w blk off R w' ∧ PermIn a b d R ∧ SortedIn ltInt a b R := by
  obtain ⟨h1, h2, h3, h4⟩ := h
  obtain ⟨p, s⟩ := heapSort_holds swo_ltInt d a b hab (by omega)
  exact (heap_any blk off cap a b d N h3.symm w h1 h2 hab hb h4).mono fun e w' ⟨he, hA⟩ => ⟨he, _, hA, p, s⟩
theorem c_rev (h : Say w blk off N d) (hab : a < b) (hb : b ≤ N) : Calls Tryz.prog 154 #[sl blk off N cap, .int .i64 a, .int .i64 b] w fun e w' =>
    e = .returned (.tuple #[]) ∧ ∃ R, At eu w blk off R w' ∧ PermIn a b d R := by
  obtain ⟨h1, h2, h3, h4⟩ := h
  have p := reverseRange_holds d a b (by omega) (by omega)
  have := rev_any blk off cap a b d w h1 h2 hab (by omega) (by omega)
  rw [h3] at this
  exact this.mono fun e w' ⟨he, hA⟩ => ⟨he, _, hA, p⟩
theorem c_break (h : Say w blk off N d) (hab : a ≤ b) (hb : b ≤ N) : Calls Tryz.prog 152 #[sl blk off N cap, .int .i64 a, .int .i64 b] w fun e w' =>
    e = .returned (.tuple #[]) ∧ ∃ R, At eu w blk off R w' ∧ PermIn a b d R := by
  obtain ⟨h1, h2, h3, h4⟩ := h
  exact break_any blk off cap a b d N h3.symm w h1 h2 hab hb h4
theorem c_pivot (h : Say w blk off N d) (hab : a < b) (hb : b ≤ N) : Calls Tryz.prog 153 #[sl blk off N cap, .int .i64 a, .int .i64 b] w fun e w' =>
    ∃ (p : Nat) (c : Int), e = .returned (.tuple #[.int .i64 p, .int .i64 c]) ∧ a ≤ p ∧ p < b ∧ At eu w blk off d w' := by
  obtain ⟨h1, h2, h3, h4⟩ := h
  have p := choosePivot_holds ltInt d a b hab
  refine (pivot_any blk off cap a b d N h3.symm w h1 h2 hab hb h4).mono fun e w' ⟨he, n, os, hw⟩ => ⟨_, _, he, p.1, p.2, ?_⟩
  exact (At.refl h1).same h1 rfl h2 ⟨n, os, hw⟩
theorem c_pi (h : Say w blk off N d) (hab : a < b) (hb : b ≤ N) (hB : Go.Sort.Below ltInt a b d) : Calls Tryz.prog 155 #[sl blk off N cap, .int .i64 a, .int .i64 b] w fun e w' =>
    ∃ (c : Bool) (R : Array Int), e = .returned (.bool c) ∧ At eu w blk off R w' ∧ PermIn a b d R ∧ (c = true → SortedIn ltInt a b R) := by
  obtain ⟨h1, h2, h3, h4⟩ := h
  obtain ⟨p, s⟩ := partialInsertionSort_holds swo_ltInt d a b hab (by omega) hB
  exact (pi_any blk off cap a b d N h3.symm w h1 h2 hab hb h4).mono fun e w' ⟨he, hA⟩ => ⟨_, _, he, hA, p, s⟩
/-- what one round that parts by an equal one leaves to be done -/
theorem c_parteq {p : Nat} (h : Say w blk off N d) (ha : 0 < a) (hap : a ≤ p) (hpb : p < b) (hb : b ≤ N) (hB : Go.Sort.Below ltInt a b d) (hnl : ltInt d[a - 1]! d[p]! = false) :
    Calls Tryz.prog 157 #[sl blk off N cap, .int .i64 a, .int .i64 b, .int .i64 p] w fun e w' =>
    ∃ (m : Nat) (R : Array Int), e = .returned (.int .i64 m) ∧ a < m ∧ m ≤ b ∧ At eu w blk off R w' ∧ R.size = d.size ∧ Go.Sort.Below ltInt m b R ∧ ∀ Q, PermIn m b R Q → SortedIn ltInt m b Q → PermIn a b d Q ∧ SortedIn ltInt a b Q := by
  obtain ⟨h1, h2, h3, h4⟩ := h
  obtain ⟨q1, q2, q3, q4, q5⟩ := round_eq swo_ltInt (partitionEqual_holds ltInt) ha hap hpb (by omega) hB hnl (mid := (partitionEqual ltInt d a b p).1) (d4 := (partitionEqual ltInt d a b p).2) rfl
  exact (parteq_any blk off cap a b p d N h3.symm w h1 h2 hap hpb hb h4).mono fun e w' ⟨he, hA⟩ => ⟨_, _, he, q1, q2, hA, q3, q4, q5⟩
/-- .. and one that parts by one of them -/
theorem c_part {p : Nat} (h : Say w blk off N d) (hap : a ≤ p) (hpb : p < b) (hb : b ≤ N) (hB : Go.Sort.Below ltInt a b d) :
    Calls Tryz.prog 158 #[sl blk off N cap, .int .i64 a, .int .i64 b, .int .i64 p] w fun e w' =>
    ∃ (m : Nat) (c : Bool) (R : Array Int), e = .returned (.tuple #[.int .i64 m, .bool c]) ∧ a ≤ m ∧ m < b ∧ At eu w blk off R w' ∧ R.size = d.size ∧ Go.Sort.Below ltInt a m R ∧ Go.Sort.Below ltInt (m + 1) b R ∧
      (∀ L, PermIn a m R L → SortedIn ltInt a m L → Go.Sort.Below ltInt (m + 1) b L ∧ ∀ Q, PermIn (m + 1) b L Q → SortedIn ltInt (m + 1) b Q → PermIn a b d Q ∧ SortedIn ltInt a b Q) ∧
      (∀ L, PermIn (m + 1) b R L → SortedIn ltInt (m + 1) b L → Go.Sort.Below ltInt a m L ∧ ∀ Q, PermIn a m L Q → SortedIn ltInt a m Q → PermIn a b d Q ∧ SortedIn ltInt a b Q) := by
  obtain ⟨h1, h2, h3, h4⟩ := h
  obtain ⟨q1, q2, q3, q4, q5, q6, q7⟩ := round_part swo_ltInt (partition_holds ltInt) hap hpb (by omega) hB (mid := (partition ltInt d a b p).1) (ap := (partition ltInt d a b p).2.1) (d4 := (partition ltInt d a b p).2.2) rfl
  exact (part_any blk off cap a b p d N h3.symm w h1 h2 hap hpb hb h4).mono fun e w' ⟨he, hA⟩ => ⟨_, _, _, he, q1, q2, hA, q3, q4, q5, q6, q7⟩
end
/-- what is left to do: whoever sorts [a, b) of dk has sorted [a0, b0) of d -/
structure Left (w : World) (blk off N a0 b0 a b : Nat) (d dk : Array Int) (wr : World) : Prop where
  says : At eu w blk off dk wr
  size : dk.size = d.size
  le : a ≤ b
  hi : b ≤ N
  below : Go.Sort.Below ltInt a b dk
  done : ∀ R, PermIn a b dk R → SortedIn ltInt a b R → PermIn a0 b0 d R ∧ SortedIn ltInt a0 b0 R
section
variable {w wr w' : World} {blk off N a0 b0 a b : Nat} {d dk R : Array Int}
theorem Left.say (h : Left w blk off N a0 b0 a b d dk wr) (h0 : Say w blk off N d) : Say wr blk off N dk := h0.at_ h.says h.size
theorem Left.perm (h : Left w blk off N a0 b0 a b d dk wr) (h0 : Say w blk off N d) (hA : At eu wr blk off R w') (hp : PermIn a b dk R) : Left w blk off N a0 b0 a b d R w' :=
  ⟨At.on h.says h0.2.1 hA hp.1, hp.1.trans h.size, h.le, h.hi, h.below.perm (by rw [h.size, h0.2.2.1]; exact h.hi) hp, fun Q h1 h2 => h.done Q (permIn_trans _ _ _ a b hp h1) h2⟩
theorem Left.fin (h : Left w blk off N a0 b0 a b d dk wr) (h0 : Say w blk off N d) (hA : At eu wr blk off R w') (hp : PermIn a b dk R) (hs : SortedIn ltInt a b R) : At eu w blk off R w' ∧ PermIn a0 b0 d R ∧ SortedIn ltInt a0 b0 R :=
  ⟨At.on h.says h0.2.1 hA hp.1, h.done R hp hs⟩
end
/-- what the sort of [a, b) hands back -/
def Sorts (w : World) (blk off a b : Nat) (d : Array Int) (e : Ending) (w' : World) : Prop := e = .returned (.tuple #[]) ∧ ∃ R, At eu w blk off R w' ∧ PermIn a b d R ∧ SortedIn ltInt a b R
set_option maxRecDepth 100000 in
set_option maxHeartbeats 16000000 in
theorem pdq_step (n blk off cap N : Nat) (hN : N < 1152921504606846976) (IH : ∀ (a b lim : Nat) (d : Array Int) (w : World), b - a < n → Say w blk off N d → a ≤ b → b ≤ N → lim < 1000 → Go.Sort.Below ltInt a b d →
      Calls Tryz.prog 144 #[sl blk off N cap, .int .i64 a, .int .i64 b, .int .i64 lim] w (Sorts w blk off a b d))
    (a b lim : Nat) (d : Array Int) (w : World) (hn : b - a ≤ n) (h0 : Say w blk off N d) (hab : a ≤ b) (hb : b ≤ N) (hlim : lim < 1000) (hB : Go.Sort.Below ltInt a b d) :
    Calls Tryz.prog 144 #[sl blk off N cap, .int .i64 a, .int .i64 b, .int .i64 lim] w (Sorts w blk off a b d) := by
  have HI := Lib.hid IH
  have H0 := Lib.hid h0
  have HL0 : Hid (Left w blk off N a b a b d d w) := ⟨At.refl h0.1, rfl, hab, hb, hB, fun R h1 h2 => ⟨h1, h2⟩⟩
  have HFin : Hid (∀ (R : Array Int) (wx : World), (At eu w blk off R wx ∧ PermIn a b d R ∧ SortedIn ltInt a b R) → Sorts w blk off a b d (.returned (.tuple #[])) wx) := fun R wx h => ⟨rfl, R, h⟩
  have HCell : Hid (∀ (a' b' : Nat) (dk : Array Int) (wx : World), Left w blk off N a b a' b' d dk wx → ∀ t, t < N → wx.cell? ⟨blk, off + t, none⟩ = some (.int .u32 dk[t]!) ∧ wx.frozen? ⟨blk, off + t, none⟩ = false) := fun a' b' dk wx h t ht => by
    have hs := h.size.trans h0.2.2.1
    have := (h.say h0).1 t (by omega)
    exact this
  generalize Sorts w blk off a b d = Fin at *
  clear IH h0 hB
  go_enter Tryz.func144, Tryz.ntmps144
  go_wp2_with fail
  go_loopw [1, 2, 3, 8, 9] (fun v1 v2 v3 v8 v9 wr => ∃ (a' b' l' : Nat) (wb wp : Bool) (dk : Array Int), v1 = .int .i64 (a' : Int) ∧ v2 = .int .i64 (b' : Int) ∧ v3 = .int .i64 (l' : Int) ∧ v8 = .bool wb ∧ v9 = .bool wp ∧ l' < 1000 ∧ b' - a' ≤ n ∧ Left w blk off N a b a' b' d dk wr) (fun v1 v2 _ _ _ _ => (intOf v2 - intOf v1).toNat)
  case atStart => exact ⟨a, b, lim, true, true, d, rfl, rfl, rfl, rfl, rfl, hlim, hn, HL0.out⟩
  case round =>
    obtain ⟨a', b', l', wb, wp, dk, rfl, rfl, rfl, rfl, rfl, hl, hn', hL⟩ := hrel
    have hle := hL.le
    have hhi := hL.hi
    have HL := Lib.hid hL
    clear hL
    obtain ⟨L, hL⟩ : ∃ L, L = b' - a' := ⟨_, rfl⟩
    have eL : (b' : Int) - (a' : Int) = (L : Int) := by omega
    have hLn : a' + L = b' := by omega
    have HLn : Hid (a' + L = b') := hLn
    clear hL
    by_cases h12 : L ≤ 12
    · have HC := Lib.hid (c_ins (cap := cap) (HL.out.say H0.out) hle hhi)
      clear hLn
      go_wp2_with (go_at_call 150; refine HC.out.mono ?_; rintro e w1 ⟨rfl, R, hA, hp, hs⟩)
      refine bodyPost_ret (results_none rfl _ _ _) rfl ?_
      exact HFin.out R _ (HL.out.fin H0.out hA hp hs)
    by_cases hz : l' = 0
    · have HC := Lib.hid (c_heap (cap := cap) (HL.out.say H0.out) hle hhi)
      clear hLn
      go_wp2_with (go_at_call 151; refine HC.out.mono ?_; rintro e w1 ⟨rfl, R, hA, hp, hs⟩)
      refine bodyPost_ret (results_none rfl _ _ _) rfl ?_
      exact HFin.out R _ (HL.out.fin H0.out hA hp hs)
    have hlt : a' < b' := by omega
    go_upto_if 35 with fail
    go_cut [3] (fun v3 wx => ∃ (l2 : Nat) (d2 : Array Int), v3 = .int .i64 (l2 : Int) ∧ l2 < 1000 ∧ Left w blk off N a b a' b' d d2 wx)
    case first =>
      cases wb
      · have HC := Lib.hid (c_break (cap := cap) (HL.out.say H0.out) hle hhi)
        go_wp2_with (go_at_call 152; refine HC.out.mono ?_; rintro e w1 ⟨rfl, R, hA, hp⟩)
        go_meet
        exact ⟨l' - 1, R, by go_num, by omega, HL.out.perm H0.out hA hp⟩
      · go_wp2_with fail
        go_meet
        exact ⟨l', dk, rfl, hl, HL.out⟩
    case' rest =>
      obtain ⟨l2, d2, rfl, hl2, hL⟩ := hcut
      have HL2 := Lib.hid hL
      clear hL HL hl hz
      have HC := Lib.hid (c_pivot (cap := cap) (HL2.out.say H0.out) hlt hhi)
      go_upto_if 50 with (go_at_call 153; refine HC.out.mono ?_; rintro e w1 ⟨p, c, rfl, hp1, hp2, hA⟩; have HL3 := Lib.hid (HL2.out.perm H0.out hA (permIn_refl _ _ _)); clear hA)
      go_cut [11, 12] (fun v11 v12 wx => ∃ (p : Nat) (c : Int) (d3 : Array Int), v11 = .int .i64 (p : Int) ∧ v12 = .int .i64 c ∧ a' ≤ p ∧ p < b' ∧ Left w blk off N a b a' b' d d3 wx)
      case first =>
        by_cases h2 : c = 2
        · have e2 : (c == 2) = true := by simp [h2]
          have HC := Lib.hid (c_rev (cap := cap) (HL3.out.say H0.out) hlt hhi)
          clear h2
          go_wp2_with (go_at_call 154; refine HC.out.mono ?_; rintro e w2 ⟨rfl, R, hA, hp⟩)
          go_meet
          exact ⟨(b' - 1) - (p - a'), 1, R, by congr 1; omega, rfl, by omega, by omega, HL3.out.perm H0.out hA hp⟩
        · have e2 : (c == 2) = false := by simp [h2]
          go_wp2_with fail
          go_meet
          exact ⟨p, c, d2, rfl, rfl, hp1, hp2, HL3.out⟩
      case' rest =>
        obtain ⟨p, c, d3, rfl, rfl, hp1, hp2, hL⟩ := hcut
        have HL4 := Lib.hid hL
        clear hL HL2
        go_upto_region 15 with fail
        go_cut [68] (fun s wx => ∃ k : Bool, s = .bool k ∧ Left w blk off N a b a' b' d d3 wx)
        case first =>
          cases wb
          · go_wp2_with fail
            go_meet
            exact ⟨_, rfl, HL4.out⟩
          cases wp
          · go_wp2_with fail
            go_meet
            exact ⟨_, rfl, HL4.out⟩
          go_wp2_with fail
          go_meet
          exact ⟨_, rfl, HL4.out⟩
        case' rest =>
        obtain ⟨k, rfl, hL⟩ := hcut
        have HL4' := Lib.hid hL
        clear hL HL4
        go_upto_if 68 with fail
        go_cut [] (fun wx => ∃ (d4 : Array Int), Left w blk off N a b a' b' d d4 wx)
        case first =>
          have HC := Lib.hid (c_pi (cap := cap) (HL4'.out.say H0.out) hlt hhi HL4'.out.below)
          cases k
          · go_wp2_with fail
            go_meet
            exact ⟨d3, HL4'.out⟩
          · have HE1 : Hid (∀ (R : Array Int) (w2 : World), At eu wc blk off R w2 → PermIn a' b' d3 R → Left w blk off N a b a' b' d R w2) := fun R w2 hA hp => HL4'.out.perm H0.out hA hp
            have HE2 : Hid (∀ (R : Array Int) (w2 : World), At eu wc blk off R w2 → PermIn a' b' d3 R → SortedIn ltInt a' b' R → Fin (.returned (.tuple #[])) w2) := fun R w2 hA hp hs => HFin.out R _ (HL4'.out.fin H0.out hA hp hs)
            go_wp2_with (go_at_call 155; refine HC.out.mono ?_; rintro e w2 ⟨k, R, rfl, hA, hp, hs⟩; have HE3 := Lib.hid (HE1.out R w2 hA hp); have HE4 : Hid (k = true → Fin (.returned (.tuple #[])) w2) := (fun h => HE2.out R w2 hA hp (hs h)); clear hA hp hs; cases k)
            · go_meet
              exact ⟨R, HE3.out⟩
            · refine bodyPost_ret (results_none rfl _ _ _) rfl ?_
              exact HE4.out (by simp)
        case' rest =>
          obtain ⟨d4, hL⟩ := hcut
          have HL5 := Lib.hid hL
          clear hL HL4'
          go_upto_region 17 with fail
          go_cut [87] (fun s wx => ∃ k : Bool, s = .bool k ∧ (k = true → 0 < a' ∧ ltInt d4[a' - 1]! d4[p]! = false) ∧ Left w blk off N a b a' b' d d4 wx)
          case first =>
            obtain ⟨G, hG⟩ : ∃ G : Nat → Int, ∀ t, G t = d4[t]! := ⟨fun t => d4[t]!, fun _ => rfl⟩
            have HG := Lib.hid hG
            have hcw : ∀ t, t < N → wc.cell? ⟨blk, off + t, none⟩ = some (.int .u32 (G t)) := fun t ht => by rw [hG]; exact (HCell.out _ _ _ _ HL5.out t ht).1
            have hfw : ∀ t, t < N → wc.frozen? ⟨blk, off + t, none⟩ = false := fun t ht => (HCell.out _ _ _ _ HL5.out t ht).2
            clear hG
            have hpN : p < N := by omega
            by_cases h00 : 0 < a'
            · have haN : a' - 1 < N := by omega
              have qa : (a' : Int) - 1 < (N : Int) := by omega
              go_wp2_with fail
              go_quiet (first | (go_at_call 156; refine Calls.quiet_of_same (Less_any _ _ _)))
              go_wp2_with fail
              go_meet
              exact ⟨_, rfl, fun h => ⟨h00, by rw [← HG.out, ← HG.out]; simpa using h⟩, HL5.out.perm H0.out ((At.refl (HL5.out.say H0.out).1).ahead nq) (permIn_refl _ _ _)⟩
            · go_wp2_with fail
              go_quiet (first | (go_at_call 156; refine Calls.quiet_of_same (Less_any _ _ _)))
              go_wp2_with fail
              go_meet
              exact ⟨false, rfl, (fun h => by cases h), HL5.out.perm H0.out ((At.refl (HL5.out.say H0.out).1).ahead nq) (permIn_refl _ _ _)⟩
          case' rest =>
            obtain ⟨k, rfl, hk, hL⟩ := hcut
            have HL6 := Lib.hid hL
            have HK := Lib.hid hk
            clear hL hk HL5
            cases k
            · have HC := Lib.hid (c_part (cap := cap) (HL6.out.say H0.out) hp1 hp2 hhi HL6.out.below)
              go_upto_if 113 with (go_at_call 158; refine HC.out.mono ?_; rintro e w5 ⟨m, q, R, rfl, hm1, hm2, hA, hsz, hB1, hB2, hdl, hdr⟩)
              have HL7 : Hid (At eu w blk off R w5 ∧ R.size = d.size) := ⟨At.on HL6.out.says H0.out.2.1 hA hsz, hsz.trans HL6.out.size⟩
              have HSay7 : Hid (Say w5 blk off N R) := H0.out.at_ HL7.out.1 HL7.out.2
              have HB7 := Lib.hid (And.intro hB1 hB2)
              have HD7 := Lib.hid (And.intro hdl hdr)
              clear hA hsz hB1 hB2 hdl hdr HC
              by_cases hll : m - a' < b' - m
              · have q1 : decide ((m : Int) - (a' : Int) < (b' : Int) - (m : Int)) = true := by simp; omega
                have HC := Lib.hid (HI.out a' m l2 R w5 (by omega) HSay7.out hm1 (by omega) hl2 HB7.out.1)
                go_wp2_with (go_at_call 144; refine HC.out.mono ?_; rintro e w6 ⟨rfl, Q, hA2, hp2, hs2⟩)
                go_roundw
                case rel =>
                  obtain ⟨g1, g2⟩ := HD7.out.1 Q hp2 hs2
                  exact ⟨m + 1, b', l2, _, q, Q, by go_num, rfl, rfl, rfl, rfl, hl2, by omega, ⟨At.on HL7.out.1 H0.out.2.1 hA2 hp2.1, hp2.1.trans HL7.out.2, by omega, hhi, g1, fun Z h1 h2 => by obtain ⟨h3, h4⟩ := g2 Z h1 h2; exact HL6.out.done Z h3 h4⟩⟩
                case measure => simp [intOf]; omega
              · have q1 : decide ((m : Int) - (a' : Int) < (b' : Int) - (m : Int)) = false := by simp; omega
                have HC := Lib.hid (HI.out (m + 1) b' l2 R w5 (by omega) HSay7.out (by omega) hhi hl2 HB7.out.2)
                have em : ((m + 1 : Nat) : Int) = (m : Int) + 1 := by omega
                rw [em] at HC
                go_wp2_with (go_at_call 144; refine HC.out.mono ?_; rintro e w6 ⟨rfl, Q, hA2, hp2, hs2⟩)
                go_roundw
                case rel =>
                  obtain ⟨g1, g2⟩ := HD7.out.2 Q hp2 hs2
                  exact ⟨a', m, l2, _, q, Q, rfl, rfl, rfl, rfl, rfl, hl2, by omega, ⟨At.on HL7.out.1 H0.out.2.1 hA2 hp2.1, hp2.1.trans HL7.out.2, hm1, by omega, g1, fun Z h1 h2 => by obtain ⟨h3, h4⟩ := g2 Z h1 h2; exact HL6.out.done Z h3 h4⟩⟩
                case measure => simp [intOf]; omega
            · obtain ⟨h00, hnl⟩ := HK.out rfl
              have HC := Lib.hid (c_parteq (cap := cap) (HL6.out.say H0.out) h00 hp1 hp2 hhi HL6.out.below hnl)
              clear hnl
              go_wp2_with (go_at_call 157; refine HC.out.mono ?_; rintro e w5 ⟨m, R, rfl, hm1, hm2, hA, hsz, hB, hd⟩)
              go_roundw
              case rel => exact ⟨m, b', l2, wb, wp, R, rfl, rfl, rfl, rfl, rfl, hl2, by omega, ⟨At.on HL6.out.says H0.out.2.1 hA hsz, hsz.trans HL6.out.size, hm2, hhi, hB, fun Q h1 h2 => by obtain ⟨h3, h4⟩ := hd Q h1 h2; exact HL6.out.done Q h3 h4⟩⟩
              case measure => simp [intOf]; omega
end Go.Proofs.YtbljhjfaimnieaaGreat.su

namespace Go.Proofs.YtbljhjfaimnieaaGreat.su
open Go.Proofs Go.RowKit Go.Sort Go.Proofs.YtbljhjfaimnieaaGreat.kit
set_option linter.unusedVariables false
set_option linter.unusedSimpArgs false
theorem pdq_all (blk off cap N : Nat) (hN : N < 1152921504606846976) : ∀ (n a b lim : Nat) (d : Array Int) (w : World), b - a < n → Say w blk off N d → a ≤ b → b ≤ N → lim < 1000 → Go.Sort.Below ltInt a b d →
      Calls Tryz.prog 144 #[sl blk off N cap, .int .i64 a, .int .i64 b, .int .i64 lim] w (Sorts w blk off a b d)
  | 0, a, b, _, _, _, h, _, _, _, _, _ => absurd h (by omega)
  | n + 1, a, b, lim, d, w, h, h0, hab, hb, hl, hB => pdq_step n blk off cap N hN (fun a b lim d w => pdq_all blk off cap N hN n a b lim d w) a b lim d w (by omega) h0 hab hb hl hB
set_option maxHeartbeats 1000000 in
theorem len_any (n : Nat) (hn : n < 4611686018427387904) (w : World) : Calls Tryz.prog 89 #[.int .u64 (n : Int)] w fun e w' => e = .returned (.int .i64 (bitsLen n : Nat)) ∧ w' = w := by
  have hL : Hid (∀ w, Calls Tryz.prog 116 #[.int .u64 (n : Int)] w fun e w' => e = .returned (.int .i64 (bitsLen n : Nat)) ∧ w' = w) := fun w => by
    have h := Tryz.bits_Len64 (n : Int) w (by omega) (by omega)
    rwa [Int.toNat_natCast, bitLen_eq _ (by omega)] at h
  go_enter Tryz.func89, Tryz.ntmps89
  go_wp2_with (go_at_call 116; refine (hL.out _).mono ?_; rintro e w' ⟨rfl, rfl⟩)
  go_ret
  exact ⟨rfl, rfl⟩
set_option maxHeartbeats 1000000 in
theorem sort_cells (blk off cap N : Nat) (d : Array Int) (w : World) (h0 : Say w blk off N d) : Calls Tryz.prog 127 #[sl blk off N cap] w (Sorts w blk off 0 N d) := by
  have hN := h0.2.2.2
  have hb : bitsLen N ≤ 62 := (bitsLen_le_iff N 62).2 (by omega)
  have HP := Lib.hid (pdq_all blk off cap N hN (N + 1) 0 N (bitsLen N) d w (by omega) h0 (by omega) (Nat.le_refl _) (by omega) (Or.inl rfl))
  have HL := Lib.hid (len_any N (by omega))
  generalize bitsLen N = m at HP HL
  have HFin : Hid (∀ w1, (∃ R, At eu w blk off R w1 ∧ PermIn 0 N d R ∧ SortedIn ltInt 0 N R) → Sorts w blk off 0 N d (.returned (.tuple #[])) w1) := fun w1 h => ⟨rfl, h⟩
  obtain ⟨Fin, hF⟩ : ∃ Fin, Fin = Sorts w blk off 0 N d := ⟨_, rfl⟩
  rw [← hF] at HFin ⊢
  have HF := Lib.hid hF
  clear h0 hb hF
  go_enter Tryz.func127, Tryz.ntmps127
  go_wp2_with (first
    | (go_at_call 89; refine (HL.out _).mono ?_; rintro e w' ⟨rfl, rfl⟩)
    | (go_at_call 144; refine HP.out.mono ?_; rintro e w1 ⟨rfl, hR⟩; have HE := Lib.hid (HFin.out w1 hR); clear hR))
  go_end0
  exact HE.out
/-- nil -/
theorem sort_nil (w : World) : Calls Tryz.prog 127 #[.slice none 0 0] w fun e w' => e = .returned (.tuple #[]) ∧ w' = w := by
  have h1 : Hid (∀ w, Calls Tryz.prog 150 #[.slice none 0 0, .int .i64 0, .int .i64 0] w fun e w' => e = .returned (.tuple #[]) ∧ w' = w) := fun w => by
    go_enter Tryz.func150, Tryz.ntmps150
    go_wp2_with fail
    go_loopw [6] (fun v6 wr => v6 = .int .i64 1 ∧ wr = w) (fun _ _ => 0)
    case atStart => exact ⟨rfl, rfl⟩
    case round =>
      obtain ⟨rfl, rfl⟩ := hrel
      go_wp2_with fail
      go_end0
      exact ⟨rfl, rfl⟩
  have h2 : Hid (∀ w, Calls Tryz.prog 144 #[.slice none 0 0, .int .i64 0, .int .i64 0, .int .i64 0] w fun e w' => e = .returned (.tuple #[]) ∧ w' = w) := fun w => by
    go_enter Tryz.func144, Tryz.ntmps144
    go_wp2_with fail
    go_loopw [1, 2, 3, 8, 9] (fun v1 v2 v3 v8 v9 wr => v1 = .int .i64 0 ∧ v2 = .int .i64 0 ∧ v3 = .int .i64 0 ∧ v8 = .bool true ∧ v9 = .bool true ∧ wr = w) (fun _ _ _ _ _ _ => 0)
    case atStart => exact ⟨rfl, rfl, rfl, rfl, rfl, rfl⟩
    case round =>
      obtain ⟨rfl, rfl, rfl, rfl, rfl, rfl⟩ := hrel
      go_wp2_with (go_at_call 150; refine (h1.out _).mono ?_; rintro e w' ⟨rfl, rfl⟩)
      refine bodyPost_ret (results_none rfl _ _ _) rfl ?_
      exact ⟨rfl, rfl⟩
  have h3 := Lib.hid (len_any 0 (by omega))
  have e0 : bitsLen 0 = 0 := rfl
  rw [e0] at h3
  clear e0
  go_enter Tryz.func127, Tryz.ntmps127
  go_wp2_with (first
    | (go_at_call 89; refine (h3.out _).mono ?_; rintro e w' ⟨rfl, rfl⟩)
    | (go_at_call 144; refine (h2.out _).mono ?_; rintro e w1 ⟨rfl, rfl⟩))
  go_end0
  exact ⟨rfl, rfl⟩
end Go.Proofs.YtbljhjfaimnieaaGreat.su
namespace Go.Proofs.YtbljhjfaimnieaaGreat.nums
open Go.RowKit Go.Proofs.YtbljhjfaimnieaaGreat.kit Go.Proofs.YtbljhjfaimnieaaGreat.mem Go.Proofs.YtbljhjfaimnieaaGreat.foot Go.Proofs.YtbljhjfaimnieaaGreat.su
set_option linter.unusedVariables false
set_option linter.unusedSimpArgs false
theorem extract_all {d : Array Int} : (d.extract 0 d.size).toList = d.toList := by simp
/-- a permutation of numbers, as numbers -/
theorem perm_nats {l : List Nat} {R : List Int} (h : R.Perm (l.map fun n : Nat => (n : Int))) : ∃ s : List Nat, R = s.map (fun n : Nat => (n : Int)) ∧ s.Perm l := by
  refine ⟨R.map Int.toNat, ?_, ?_⟩
  · rw [List.map_map]
    conv => lhs; rw [← List.map_id R]
    refine List.map_congr_left fun x hx => ?_
    have := h.subset hx
    rw [List.mem_map] at this
    obtain ⟨n, _, rfl⟩ := this
    simp
  · have := h.map Int.toNat
    rw [List.map_map] at this
    have e : l.map (Int.toNat ∘ fun n : Nat => (n : Int)) = l := by
      conv => rhs; rw [← List.map_id l]
      exact List.map_congr_left fun x _ => by simp
    rwa [e] at this
theorem Sort_any (A : Option Addr) (n c : Nat) (l : List Nat) (w : World) (hl : l.length = n) (hn : n < 1152921504606846976) (h : foot.Own w 23 1 A n c (uv l)) :
    Calls Tryz.prog 127 #[.slice A n c] w fun e w' => e = .returned (.tuple #[]) ∧ ∃ s : List Nat, s.Perm l ∧ s.Pairwise (· ≤ ·) ∧ foot.Own w' 23 1 A n c (uv s) ∧ Chg (sf A) w w' := by
  subst hl
  obtain ⟨hlen, hr⟩ := h
  rcases hr with ⟨rfl, h1, rfl⟩ | ⟨g, off, cur, rfl, hb, h1, h2, h3, h4⟩
  · have hz : l = [] := List.length_eq_zero_iff.1 h1
    subst hz
    refine (sort_nil w).mono ?_
    rintro e w' ⟨rfl, rfl⟩
    exact ⟨rfl, [], List.Perm.refl _, List.Pairwise.nil, ⟨by simp [uv], .inl ⟨rfl, rfl, rfl⟩⟩, Chg.refl _ _⟩
  · have hS : Say w g off l.length (l.map fun n : Nat => (n : Int)).toArray := by
      refine ⟨fun j hj => ?_, hb.lt, by simp, hn⟩
      have hj' : j < l.length := by simpa using hj
      refine ⟨?_, by rw [hb.free]⟩
      rw [hb.cell, h4 j (.int .u32 (l[j] : Int)) (by simp [uv, hj'])]
      simp [hj']
    refine (sort_cells g off c l.length _ w hS).mono ?_
    rintro e w' ⟨rfl, R, ⟨m, os, rfl⟩, hP, hSo⟩
    have hsz : R.size = l.length := by rw [hP.1]; simp
    have hp : R.toList.Perm (l.map fun n : Nat => (n : Int)) := by
      have := hP.2.2
      rw [show l.length = R.size from hsz.symm, extract_all] at this
      rw [show R.size = (l.map fun n : Nat => (n : Int)).toArray.size by simp [hsz], extract_all] at this
      simpa using this
    obtain ⟨s, hs, hsp⟩ := perm_nats hp
    have hsl : s.length = l.length := hsp.length_eq
    have hR : R = (s.map fun n : Nat => (n : Int)).toArray := by rw [← hs]
    have hg : g < w.heap.size := hb.lt
    refine ⟨rfl, s, hsp, ?_, ⟨by simp [uv, hsl], .inr ⟨g, off, Go.Sort.putCells eu off R cur, rfl, ?_, h1, h2, by simpa [Go.Sort.putCells] using h3, fun j u hu => ?_⟩⟩, ⟨rfl, rfl, rfl, by simp, fun k hk hf => ?_⟩⟩
    · rw [List.pairwise_iff_getElem]
      intro i j hi hj hij
      have := hSo i j (Nat.zero_le _) hij (by omega)
      rw [hR] at this
      simp [Go.Sort.ltInt, hi, hj] at this
      omega
    · unfold Bk at hb ⊢
      simp only [Go.Sort.grow, Go.Sort.putRow, Go.Sort.mapBlock, Go.Sort.ahead]
      rw [Array.getElem?_append_left (by simpa using hg), Array.getElem?_modify, hb]
      simp [Go.Sort.onCells]
    · have hj : j < s.length := by
        have := (List.getElem?_eq_some_iff.1 hu).1
        simpa [uv] using this
      have e1 : u = .int .u32 (s[j] : Int) := by
        unfold uv at hu
        rw [List.getElem?_map, List.getElem?_eq_getElem hj] at hu
        exact (Option.some.inj hu).symm
      have hcur : off + j < cur.size := by omega
      subst e1
      rw [hR]
      simp only [Go.Sort.putCells, Array.getElem?_mapIdx]
      rw [Array.getElem?_eq_getElem hcur]
      simp [hj]
    · simp only [Go.Sort.grow, Go.Sort.putRow, Go.Sort.mapBlock, Go.Sort.ahead]
      rw [Array.getElem?_append_left (by simpa using hk), Array.getElem?_modify]
      rw [sf_some] at hf
      simp [hf]
end Go.Proofs.YtbljhjfaimnieaaGreat.nums

/- What the median of three numbers of 32 bits is, and of one and its fellows. Conditions as each statement says. -/
import Derived.Test.YtafepficapdepaaSuMed
namespace Go.Proofs.Ytafepficapdepaa.su
open Go.Proofs Go.RowKit Go.Sort Go.Proofs.Ytafepficapdepaa.kit
set_option linter.unusedVariables false
set_option linter.unusedSimpArgs false
set_option maxRecDepth 100000 in
set_option maxHeartbeats 4000000 in
theorem median_any (d : Array Int) (N : Nat) (hN : N = d.size) (blk off cap a b c sb s : Nat) (w : World) (hH : Holds eu w blk off d) (hne : sb ≠ blk) (ha : a < N) (hb : b < N) (hc : c < N) (hS : Holds (Value.int .i64) w sb 0 (one s)) (hs : s < 900) :
    Calls Try.prog 208 #[.slice (some ⟨blk, off, none⟩) N cap, .int .i64 a, .int .i64 b, .int .i64 c, .pointer (some ⟨sb, 0, none⟩)] w fun e w' =>
      e = .returned (.int .i64 (median ltInt d a b c s).1) ∧ ∃ n, w' = putRow (Value.int .i64) (Sort.ahead w n) sb 0 (one (median ltInt d a b c s).2) := by
  have O1 := order2_any d N hN blk off cap a b sb s w hH ha hb hS (by omega)
  have l1 := order2_lt d s ha hb
  have t1 := order2_swaps d a b s
  obtain ⟨x1, y1, s1, e1⟩ : ∃ x y t, order2 ltInt d a b s = (x, y, t) := ⟨_, _, _, rfl⟩
  rw [e1] at O1 l1 t1
  simp only [] at O1 l1 t1
  have l2 := order2_lt d s1 l1.2 hc
  have t2 := order2_swaps d y1 c s1
  have O2 := fun n => order2_any d N hN blk off cap y1 c sb s1 _ (aside (n := n) (t := s1) hH hne) l1.2 hc (holds_one (n := n) (t := s1) hS) (by omega)
  obtain ⟨x2, y2, s2, e2⟩ : ∃ x y t, order2 ltInt d y1 c s1 = (x, y, t) := ⟨_, _, _, rfl⟩
  rw [e2] at O2 l2 t2
  simp only [] at O2 l2 t2
  have O3 := fun n m => order2_any d N hN blk off cap x1 x2 sb s2 _ (aside (n := m) (t := s2) (aside (n := n) (t := s1) hH hne) hne) l1.1 l2.1 (holds_one (n := m) (t := s2) (holds_one (n := n) (t := s1) hS)) (by omega)
  obtain ⟨x3, y3, s3, e3⟩ : ∃ x y t, order2 ltInt d x1 x2 s2 = (x, y, t) := ⟨_, _, _, rfl⟩
  rw [e3] at O3
  have em : median ltInt d a b c s = (y3, s3) := by
    unfold median
    simp only [e1, e2, e3]
  rw [em]
  simp only [] at O3 ⊢
  have HO1 := Lib.hid O1
  have HO2 := Lib.hid O2
  have HO3 := Lib.hid O3
  clear O1 O2 O3 em l1 t1 l2 t2 hH hS e1 e2 e3 hN hs hne ha hb hc
  go_enter Try.func208, Try.ntmps208
  go_wp2_with (go_at_call_of 212 (Value.int .i64 (b : Int)); refine HO1.out.mono ?_; rintro e w' ⟨rfl, n1, rfl⟩)
  go_wp2_with (go_at_call_of 212 (Value.int .i64 (c : Int)); refine (HO2.out n1).mono ?_; rintro e w' ⟨rfl, n2, rfl⟩)
  go_wp2_with (go_at_call_of 212 (Value.int .i64 (x1 : Int)); refine (HO3.out n1 n2).mono ?_; rintro e w' ⟨rfl, n3, rfl⟩)
  go_ret
  refine ⟨rfl, n1 + (n2 + n3), ?_⟩
  rw [one_one, one_one]
set_option maxRecDepth 100000 in
set_option maxHeartbeats 4000000 in
theorem adjacent_any (d : Array Int) (N : Nat) (hN : N = d.size) (blk off cap a sb s : Nat) (w : World) (hH : Holds eu w blk off d) (hne : sb ≠ blk) (ha : 1 ≤ a) (hb : a + 1 < N) (hsz : N < 1152921504606846976) (hS : Holds (Value.int .i64) w sb 0 (one s)) (hs : s < 900) :
    Calls Try.prog 207 #[.slice (some ⟨blk, off, none⟩) N cap, .int .i64 a, .pointer (some ⟨sb, 0, none⟩)] w fun e w' =>
      e = .returned (.int .i64 (medianAdjacent ltInt d a s).1) ∧ ∃ n, w' = putRow (Value.int .i64) (Sort.ahead w n) sb 0 (one (medianAdjacent ltInt d a s).2) := by
  have O1 := median_any d N hN blk off cap (a - 1) a (a + 1) sb s w hH hne (by omega) (by omega) (by omega) hS hs
  rw [show ((a - 1 : Nat) : Int) = (a : Int) - 1 by omega, show ((a + 1 : Nat) : Int) = (a : Int) + 1 by omega] at O1
  have em : medianAdjacent ltInt d a s = median ltInt d (a - 1) a (a + 1) s := rfl
  rw [em]
  obtain ⟨x, t, e1⟩ : ∃ x t, median ltInt d (a - 1) a (a + 1) s = (x, t) := ⟨_, _, rfl⟩
  rw [e1] at O1 ⊢
  simp only [] at O1 ⊢
  have HO1 := Lib.hid O1
  clear O1 em hH hS e1 hN hs hne
  go_enter Try.func207, Try.ntmps207
  go_wp2_with (go_at_call 208; refine HO1.out.mono ?_; rintro e w' ⟨rfl, n1, rfl⟩)
  go_ret
  exact ⟨rfl, n1, rfl⟩
end Go.Proofs.Ytafepficapdepaa.su

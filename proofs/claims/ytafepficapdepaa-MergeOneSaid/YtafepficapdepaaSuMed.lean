/- What the medians of numbers of 32 bits are. Conditions as each lemma states. -/
import Derived.Sort.Walk11
import Derived.Test.YtafepficapdepaaSu
import Derived.Test.YtafepficapdepaaKit
namespace Go.Proofs.Ytafepficapdepaa.su
open Go.Proofs Go.RowKit Go.Sort Go.Proofs.Ytafepficapdepaa.kit
set_option linter.unusedVariables false
set_option linter.unusedSimpArgs false
/-- the counter, in another block, turned: the numbers are as they were -/
theorem aside {w : World} {blk off sb n t : Nat} {d : Array Int} (h : Holds eu w blk off d) (hne : sb ≠ blk) : Holds eu (putRow (Value.int .i64) (Sort.ahead w n) sb 0 (one t)) blk off d := fun j hj => by
  refine ⟨?_, ?_⟩
  · rw [cell?_putRow_other _ _ _ _ _ _ (Or.inl (Ne.symm hne))]; exact (h j hj).1
  · rw [frozen?_putRow]; exact (h j hj).2
set_option maxRecDepth 100000 in
set_option maxHeartbeats 2000000 in
theorem order2_any (d : Array Int) (N : Nat) (hN : N = d.size) (blk off cap a b sb s : Nat) (w : World) (hH : Holds eu w blk off d) (ha : a < N) (hb : b < N) (hS : Holds (Value.int .i64) w sb 0 (one s)) (hs : s < 1000) :
    Calls Try.prog 212 #[.slice (some ⟨blk, off, none⟩) N cap, .int .i64 a, .int .i64 b, .pointer (some ⟨sb, 0, none⟩)] w fun e w' =>
      e = .returned (.tuple #[.int .i64 (order2 ltInt d a b s).1, .int .i64 (order2 ltInt d a b s).2.1]) ∧ ∃ n, w' = putRow (Value.int .i64) (Sort.ahead w n) sb 0 (one (order2 ltInt d a b s).2.2) := by
  have HN := Lib.hid hN
  have ca := (hH a (by omega)).1
  have cb := (hH b (by omega)).1
  obtain ⟨cs, fs⟩ := one_cell hS
  obtain ⟨x, hx⟩ : ∃ x : Int, x = d[a]! := ⟨_, rfl⟩
  obtain ⟨y, hy⟩ : ∃ y : Int, y = d[b]! := ⟨_, rfl⟩
  have eo : order2 ltInt d a b s = if ltInt y x then (b, a, s + 1) else (a, b, s) := by rw [hx, hy]; rfl
  have HS := Lib.hid hS
  replace ca : w.cell? ⟨blk, off + a, none⟩ = some (.int .u32 x) := by rw [hx]; exact ca
  replace cb : w.cell? ⟨blk, off + b, none⟩ = some (.int .u32 y) := by rw [hy]; exact cb
  have HE := Lib.hid eo
  clear hx hy hH hS hN eo HN
  go_enter Try.func212, Try.ntmps212
  go_wp2_with fail
  go_quiet (first | (go_at_call 186; refine Calls.quiet_of_same (Less_any _ _ _)))
  go_wp2_with fail
  · have hl : ltInt y x = true := by assumption
    go_ret2
    rw [HE.out, hl]
    refine ⟨rfl, nq, ?_⟩
    rw [putRow_ahead]
    show _ = Sort.ahead (putRow (Value.int .i64) w sb 0 (one (s + 1))) nq
    rw [← one_set HS.out (s + 1)]
    rfl
  · have hl : ltInt y x = false := by assumption
    go_ret2
    rw [HE.out, hl]
    refine ⟨rfl, nq, ?_⟩
    rw [putRow_ahead]
    show _ = Sort.ahead (putRow (Value.int .i64) w sb 0 (one s)) nq
    rw [putRow_self _ _ _ _ _ HS.out]
    rfl
end Go.Proofs.Ytafepficapdepaa.su

/- Sorting numbers of 32 bits: the world behind swaps; cmp.Less; the numbers that the generator and the next power of two come to. Conditions as each lemma states. -/
import Derived.Sort.WalkA
import Derived.Sort.Walk13a
import Derived.Test.YtafepficapdepaaProg
namespace Go.Proofs.Ytafepficapdepaa.su
open Go.Proofs Go.RowKit Go.Sort
set_option linter.unusedVariables false
set_option linter.unusedSimpArgs false
/-- numbers of 32 bits as values -/
abbrev eu : Int → Value := fun x => Value.int .u32 x

section
variable {w wr w1 : World} {blk off : Nat} {d d0 : Array Int}
theorem At.cells (h : At eu w blk off d wr) (h0 : Holds eu w blk off d0) (hs : d.size = d0.size) (hb : blk < w.heap.size) : ∀ t, t < d.size → wr.cell? ⟨blk, off + t, none⟩ = some (.int .u32 d[t]!) ∧ wr.frozen? ⟨blk, off + t, none⟩ = false := fun t ht => by
  have := (h.holds h0 hs hb).1 t ht
  exact this
theorem At.drewN (h : At eu w blk off d wr) (m : Nat) : At eu w blk off d (wr.drewN m) := h.ahead m
/-- two of its elements changed places, behind some draws -/
theorem At.swap (h : At eu w blk off d wr) (h0 : Holds eu w blk off d0) (hs : d.size = d0.size) (hb : blk < w.heap.size) (q j k : Nat) (hj : j < d.size) (hk : k < d.size) :
    At eu w blk off (swp d j k) (((wr.drewN q).setCell ⟨blk, off + j, none⟩ (.int .u32 d[k]!)).setCell ⟨blk, off + k, none⟩ (.int .u32 d[j]!)) := by
  refine h.step hb (by rw [size_swp]) ⟨q, ?_⟩
  have e := putRow_swp eu (wr.drewN q) blk off d j k hj hk
  have hh := (h.holds h0 hs hb).1
  rw [show (wr.drewN q) = Sort.ahead wr q from rfl] at e ⊢
  rw [putRow_self eu (Sort.ahead wr q) blk off d (holds_ahead eu wr q blk off d hh)] at e
  exact e
end

set_option maxHeartbeats 1000000 in
theorem isNaN_any (x : Int) (w : World) : Calls Try.prog 209 #[.int .u32 x] w fun e w' => e = .returned (.bool false) ∧ w' = w := by
  go_enter Try.func209, Try.ntmps209
  go_wp2
  go_ret
  exact ⟨by simp, rfl⟩
set_option maxHeartbeats 1000000 in
theorem Less_any (x y : Int) (w : World) : Calls Try.prog 186 #[.int .u32 x, .int .u32 y] w fun e w' => e = .returned (.bool (ltInt x y)) ∧ w' = w := by
  go_enter Try.func186, Try.ntmps186
  go_wp2_with (go_at_call 209; refine (isNaN_any _ _).mono ?_; rintro e w' ⟨rfl, rfl⟩)
  go_ret
  exact ⟨rfl, rfl⟩
end Go.Proofs.Ytafepficapdepaa.su

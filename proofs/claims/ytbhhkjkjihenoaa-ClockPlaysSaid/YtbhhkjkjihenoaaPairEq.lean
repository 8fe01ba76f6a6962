/- Two equal pairs of integers are not unequal. No condition. -/
import Derived.Test.YtbhhkjkjihenoaaRows
import Derived.ChangeKeysEq
import Derived.WalkKit
namespace Go.Proofs.Ytbhhkjkjihenoaa.clk
open Go.RowKit
theorem info_i : ∃ i, Try.prog.info? 3 = some i ∧ i.size = 1 := by
  have h : (Try.prog.info? 3).map (·.size) = some 1 := by kernel_rfl
  rcases hi : Try.prog.info? 3 with _ | i
  · rw [hi] at h; cases h
  · rw [hi] at h; exact ⟨i, rfl, by simpa using h⟩
theorem part_int (xs : Array Value) (j : Nat) (a : Int) (h : xs[j]? = some (.int .i64 a)) (w : World) : (part 3 xs j).run Try.prog w = .ok (.int .i64 a) w := by
  have := Try.isAgg3
  simp [part, this, h]
theorem neq_pair (x y : Int) (w : World) : (binOp .neq 113 (.agg #[.int .i64 x, .int .i64 y]) (.agg #[.int .i64 x, .int .i64 y])).run Try.prog w = .ok (.bool false) w := by
  obtain ⟨i, hi, hs⟩ := info_i
  have hc : Try.prog.cellsOf 3 = 1 := by kernel_rfl
  have h : (Op.equalIn 10000 113 (.agg #[.int .i64 x, .int .i64 y]) (.agg #[.int .i64 x, .int .i64 y])).run Try.prog w = .ok true w := by
    rw [show (10000 : Nat) = 9999 + 1 from rfl, run_equalIn_array w 9999 _ _ Try.underlying113 hi, hc]
    have p0 := fun w => part_int #[.int .i64 x, .int .i64 y] 0 x rfl w
    have p1 := fun w => part_int #[.int .i64 x, .int .i64 y] 1 y rfl w
    have q := fun a w => run_equalIn_int (P := Try.prog) w 9998 3 .i64 .i64 a a Try.underlying3
    rw [show List.range 2 = [0, 1] from rfl]
    simp only [Op.eqItems, Sem.run_bind, Nat.zero_mul, Nat.one_mul, p0, p1, Result.andThen_ok, q, beq_self_eq_true, Sem.run_pure, Bool.not_true, Bool.false_eq_true, if_false]
  rw [run_neq_struct, h]
  rfl
end Go.Proofs.Ytbhhkjkjihenoaa.clk

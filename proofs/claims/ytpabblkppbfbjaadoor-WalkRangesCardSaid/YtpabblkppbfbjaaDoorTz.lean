/- What bits.TrailingZeros32 returns, as long as the table that it reads holds what it was laid with. -/
import Derived.Test.YtpabblkppbfbjaaDoorTzMath
import Derived.Test.YtpabblkppbfbjaaDoorPfxFns
import Derived.Test.YtpabblkppbfbjaaDoorFoot
import Derived.Test.YtpabblkppbfbjaaDoorRows
import Derived.Lib.LaidTab
import Derived.LaidMore
namespace Go.Proofs.YtpabblkppbfbjaaDoor.wlk
open Go.RowKit Go.Proofs.YtpabblkppbfbjaaDoor.kit Go.Proofs.YtpabblkppbfbjaaDoor.pfx Go.Proofs.YtpabblkppbfbjaaDoor.mem Go.Proofs.YtpabblkppbfbjaaDoor.foot
set_option linter.unusedVariables false
set_option linter.unusedSimpArgs false

/-- the table is there -/
def Db (w : World) : Prop := Lib.TabIs Tryd.prog w "math/bits.deBruijn32tab" .u8 dbTab
theorem gDb : Tryd.prog.globalNamed "math/bits.deBruijn32tab" = some 0 := by kernel_rfl
theorem gDbt : (Tryd.prog.globals[0]?).map (·.type) = some 49 := by kernel_rfl
theorem db_same : Rows.laid_math_bits_deBruijn32tab (H := Unit) = Lib.tabData .u8 dbTab := by kernel_rfl
theorem Db.below {w w' : World} {B : Nat} (h : Db w) (hb : Below B w w') (hB : 0 < B) : Db w' := by
  unfold Db Lib.TabIs World.var? at *
  rw [gDb] at h ⊢
  simpa [hb.block 0 hB] using h
theorem Db.cell {w : World} (h : Db w) (i : Nat) (hi : i < 32) : w.cell? ⟨0, i, none⟩ = some (.int .u8 (dbTab.getD i 0)) := Lib.TabIs.cell h gDb i hi
theorem db_of {W : World} (h : laidMetH Tryd.prog Rows.walkRangesRow.laid W) : Db W := by
  rw [MakeChecks.laidMetH_plain _ _ _ (by kernel_rfl)] at h
  have h2 : laidMet Tryd.prog (("math/bits.deBruijn32tab", Lib.tabData .u8 dbTab) :: []) W := by
    rw [← db_same]
    exact h
  exact Lib.tabIs_of_head gDb gDbt Tryd.underlying49 Tryd.underlying5 (by kernel_rfl) (by kernel_rfl) h2
theorem Db.pos {w : World} (h : Db w) : 0 < w.heap.size := by
  have h1 := h.cell 0 (by omega)
  rcases Nat.eq_zero_or_pos w.heap.size with h0 | h0
  · exfalso
    have : w.heap = #[] := by
      apply Array.eq_empty_of_size_eq_zero
      exact h0
    simp [World.cell?, this] at h1
  · exact h0

theorem tz_zero (w : World) : Calls Tryd.prog 14 #[.int .u32 0] w fun e w' => e = .returned (.int .i64 32) ∧ w' = w := by
  go_enter Tryd.func14, Tryd.ntmps14
  go_wp2_with fail
  go_ret
  exact ⟨rfl, rfl⟩
set_option maxRecDepth 100000 in
theorem tz_any (t m : Nat) (h : 2 ^ t * (2 * m + 1) < 4294967296) (w : World) (hw : Db w) : Calls Tryd.prog 14 #[.int .u32 ((2 ^ t * (2 * m + 1) : Nat) : Int)] w fun e w' => e = .returned (.int .i64 (t : Int)) ∧ w' = w := by
  have hp := Nat.pow_pos (n := t) (show 0 < 2 by decide)
  have ht : t < 32 := by
    rcases Nat.lt_or_ge t 32 with h3 | h3
    · exact h3
    · have h4 : 2 ^ 32 ≤ 2 ^ t := Nat.pow_le_pow_right (by omega) h3
      have h5 : 2 ^ t * 1 ≤ 2 ^ t * (2 * m + 1) := Nat.mul_le_mul_left _ (by omega)
      omega
  have hlow := low_bit t m h
  have hx0 : 1 ≤ 2 ^ t * (2 * m + 1) := Nat.mul_pos hp (by omega)
  obtain ⟨x, hx⟩ : ∃ x, x = 2 ^ t * (2 * m + 1) := ⟨_, rfl⟩
  rw [← hx] at h hlow hx0 ⊢
  have hneg : IntKind.u32.wrap (-(x : Int)) = ((4294967296 - x : Nat) : Int) := by
    simp only [IntKind.wrap, IntKind.bits, IntKind.signed]
    simp only [Bool.false_and, Bool.false_eq_true, if_false]
    omega
  have hand : bits .and .u32 (x : Int) ((4294967296 - x : Nat) : Int) = ((2 ^ t : Nat) : Int) := by
    rw [u32_and_nat _ _ h (by omega)]
    congr 1
  have hc := hw.cell ((2 ^ t * 125613361) % 4294967296 / 134217728) (db_lt t)
  rw [db_at ⟨t, ht⟩] at hc
  dsimp only at hc
  have hmul : IntKind.u32.wrap (((2 ^ t : Nat) : Int) * 125613361) = (((2 ^ t * 125613361) % 4294967296 : Nat) : Int) := by
    simp only [IntKind.wrap, IntKind.bits, IntKind.signed]
    simp only [Bool.false_and, Bool.false_eq_true, if_false]
    omega
  have hx1 : ¬ (x : Int) = 0 := by omega
  have hpw : (2 ^ t : Nat) ≤ 2147483648 := Nat.le_trans (Nat.pow_le_pow_right (by omega) (show t ≤ 31 by omega)) (by decide)
  have hgl := hw.pos
  clear hx hlow hw hp
  generalize (2 ^ t : Nat) = p at *
  obtain ⟨y, hy⟩ : ∃ y, y = p * 125613361 % 4294967296 := ⟨_, rfl⟩
  rw [← hy] at hmul hc
  have hy2 : y < 4294967296 := by omega
  clear hy
  go_enter Tryd.func14, Tryd.ntmps14
  go_wp2_with fail
  go_ret
  exact ⟨rfl, rfl⟩
end Go.Proofs.YtpabblkppbfbjaaDoor.wlk

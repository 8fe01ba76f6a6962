/- The table that strconv.Itoa reads, from the row's condition; what Itoa returns, as long as nothing that was there is written. -/
import Derived.Test.YthoclemgiopjpaaDoorNoticeName2
import Derived.Test.YthoclemgiopjpaaDoorItoa
import Derived.Test.YthoclemgiopjpaaDoorRows
import Derived.Lib.LaidTab
import Derived.LaidMore
namespace Go.Proofs.YthoclemgiopjpaaDoor.notice
open Go.RowKit Go.Proofs.YthoclemgiopjpaaDoor.kit Go.Proofs.YthoclemgiopjpaaDoor.mem Go.Proofs.YthoclemgiopjpaaDoor.foot
set_option linter.unusedVariables false

theorem gT : Tryd.prog.globalNamed "internal/strconv.uint64pow10" = some 0 := by kernel_rfl
theorem pow_same : Rows.laid_internal_strconv_uint64pow10 (H := Unit) = Lib.tabData .u64 Lib.pow10Tab := by kernel_rfl

theorem tab_below {w w' : World} {B : Nat} {zs : List Int} (h : Lib.TabIs Tryd.prog w "internal/strconv.uint64pow10" .u64 zs) (hb : Below B w w') (hB : 0 < B) : Lib.TabIs Tryd.prog w' "internal/strconv.uint64pow10" .u64 zs := by
  unfold Lib.TabIs World.var? at *
  rw [gT] at h ⊢
  simpa [hb.block 0 hB] using h

theorem gTt : (Tryd.prog.globals[0]?).map (·.type) = some 70 := by kernel_rfl
theorem tab_of {W : World} (h : laidMetH Tryd.prog Rows.noticeNamesRow.laid W) : Lib.TabIs Tryd.prog W "internal/strconv.uint64pow10" .u64 Lib.pow10Tab := by
  rw [MakeChecks.laidMetH_plain _ _ _ (by kernel_rfl)] at h
  obtain ⟨ps, ⟨g0, t0, cs0, f0, p0, q0, hg0, ht0, hv0, hd0, ⟨g1, t1, cs1, f1, p1, q1, hg1, ht1, hv1, hd1, ⟨g2, t2, cs2, f2, p2, q2, hg2, ht2, hv2, hd2, _, _⟩, _⟩, _⟩, _, _⟩ := h
  obtain rfl := Option.some.inj (gT.symm.trans hg2)
  obtain rfl := Option.some.inj (gTt.symm.trans ht2)
  rw [pow_same] at hd2
  unfold Lib.TabIs
  rw [hv2, ← Lib.cells_of_tab Tryd.underlying70 Tryd.underlying52 (by kernel_rfl) (by kernel_rfl) hd2]
end Go.Proofs.YthoclemgiopjpaaDoor.notice

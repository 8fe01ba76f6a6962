/- The walk of the law PlaneDoubles: the Go text returns true and writes nothing that was there. No condition. -/
import Derived.Test.YtpggdofleehmdaaPlaneFns3
namespace Go.Proofs.Ytpggdofleehmdaa.planeDoubles
open Go.RowKit Go.Proofs.Ytpggdofleehmdaa.plane
set_option linter.unusedVariables false

set_option maxRecDepth 100000 in
theorem walk (a0 : Int) (w0 : (Lit.int .u32 a0).wf = true) (W : World) :
    Calls Try.prog 7 #[.int .u32 a0] W fun e w' => e = .returned (.bool true) ∧ Below W.heap.size W w' := by
  have b0 : 0 ≤ a0 ∧ a0 ≤ 4294967295 := by simpa [Lit.wf, IntKind.min, IntKind.max, IntKind.signed, IntKind.bits] using w0
  clear w0
  obtain ⟨a, rfl⟩ := Int.eq_ofNat_of_zero_le b0.1
  have hm : ((a : Int) % 2147483648) = ((a % 2147483648 : Nat) : Int) := by omega
  have hlt : a % 2147483648 < 2147483648 := Nat.mod_lt _ (by omega)
  generalize a % 2147483648 = c at *
  have hs := pt_small 32 c (by omega)
  have HP := Lib.hid (plane_Point c (by omega))
  have HP2 := Lib.hid (plane_Point (2 * c) (by omega))
  have hd := pt_double c hlt
  rw [hd] at HP2
  have HT := Lib.hid (times_any ((pt 32 c).1, (pt 32 c).2) (-1, 1))
  have hn : (isNear (pt 32 c).1 && isNear (pt 32 c).2 && isNear (-1) && isNear 1) = true := by simp [isNear]; omega
  have hc : cm ((pt 32 c).1, (pt 32 c).2) (-1, 1) = mb (pt 32 c) := by
    unfold cm mb; apply Prod.ext <;> dsimp only <;> omega
  dsimp only at HT
  rw [hn, if_pos rfl, if_pos rfl, hc] at HT
  rw [show ((2 * c : Nat) : Int) = 2 * (c : Int) from by omega] at HP2
  clear hd hn hc hs
  generalize (mb (pt 32 c)).1 = u2 at *
  generalize (mb (pt 32 c)).2 = v2 at *
  generalize (pt 32 c).1 = u at *
  generalize (pt 32 c).2 = v at *
  have he := eqArr2
  go_enter Try.func7, Try.ntmps7
  go_wp2_with fail
  refine (HP.out _).mono ?_; rintro e w' ⟨rfl, rfl⟩
  go_wp2_with fail
  refine (HP2.out _).mono ?_; rintro e w' ⟨rfl, rfl⟩
  go_wp2_with fail
  refine (HT.out _).mono ?_; rintro e w1 ⟨rfl, hb1⟩
  go_wp2_with fail
  refine (lives_any _).mono ?_; rintro e w2 ⟨rfl, hb2⟩
  go_wp2_with fail
  go_ret
  exact ⟨rfl, (((hb1.alloc hb1.size _).trans (hb2.mono (by simp; have := hb1.size; omega))))⟩
end Go.Proofs.Ytpggdofleehmdaa.planeDoubles

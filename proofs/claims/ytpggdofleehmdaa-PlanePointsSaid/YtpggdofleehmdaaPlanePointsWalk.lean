/- The walk of the law PlanePoints: the Go text returns true and writes nothing that was there. No condition. -/
import Derived.Test.YtpggdofleehmdaaPlaneFns2
namespace Go.Proofs.Ytpggdofleehmdaa.planePoints
open Go.RowKit Go.Proofs.Ytpggdofleehmdaa.plane
set_option linter.unusedVariables false

theorem walk (a0 : Int) (w0 : (Lit.int .u32 a0).wf = true) (a1 : Int) (w1 : (Lit.int .i64 a1).wf = true) (W : World) :
    Calls Try.prog 6 #[.int .u32 a0, .int .i64 a1] W fun e w' => e = .returned (.bool true) ∧ Below W.heap.size W w' := by
  have b0 : 0 ≤ a0 ∧ a0 ≤ 4294967295 := by simpa [Lit.wf, IntKind.min, IntKind.max, IntKind.signed, IntKind.bits] using w0
  clear w0 w1
  obtain ⟨a, rfl⟩ := Int.eq_ofNat_of_zero_le b0.1
  have hs := pt_small 32 a (by omega)
  have hfp := find_pt a (by omega)
  have HA := Lib.hid (addr_any (pt 32 a).1 (pt 32 a).2 (by omega) (by omega))
  rw [show ((pt 32 a).1, (pt 32 a).2) = pt 32 a from rfl, hfp] at HA
  have HP := Lib.hid (plane_Point a (by omega))
  have HR := Lib.hid (ref_Point a (by omega))
  have HW := Lib.hid (power_any a1)
  clear hfp b0 hs
  dsimp only at HA
  generalize (pt 32 a).1 = u at *
  generalize (pt 32 a).2 = v at *
  by_cases h0 : a1 < 0
  · have hcl : clamp a1 = 0 := by unfold clamp; rw [if_pos h0]
    rw [hcl] at HW
    have HQ := Lib.hid (ref_Power 0 (by omega))
    clear hcl
    generalize (pw 0).1 = p at *
    generalize (pw 0).2 = q at *
    go_enter Try.func6, Try.ntmps6
    go_wp2_with (first | (go_at_call 23; refine (HP.out _).mono ?_; rintro e w' ⟨rfl, rfl⟩) | (go_at_call 19; refine (HR.out _).mono ?_; rintro e w' ⟨rfl, rfl⟩) | (go_at_call 18; refine (HA.out _).mono ?_; rintro e w1 ⟨rfl, hb1⟩) | (go_at_call 24; refine (HW.out _).mono ?_; rintro e w' ⟨rfl, rfl⟩) | (go_at_call 25; refine (HQ.out _).mono ?_; rintro e w' ⟨rfl, rfl⟩) | (go_at_call 20; refine (lives_any _).mono ?_; rintro e w2 ⟨rfl, hb2⟩))
    go_ret
    exact ⟨rfl, hb1.trans (hb2.mono hb1.size)⟩
  · by_cases h1 : 32 < a1
    · have hcl : clamp a1 = 32 := by unfold clamp; rw [if_neg h0, if_pos h1]
      rw [hcl] at HW
      have HQ := Lib.hid (ref_Power 32 (by omega))
      clear hcl
      generalize (pw 32).1 = p at *
      generalize (pw 32).2 = q at *
      go_enter Try.func6, Try.ntmps6
      go_wp2_with (first | (go_at_call 23; refine (HP.out _).mono ?_; rintro e w' ⟨rfl, rfl⟩) | (go_at_call 19; refine (HR.out _).mono ?_; rintro e w' ⟨rfl, rfl⟩) | (go_at_call 18; refine (HA.out _).mono ?_; rintro e w1 ⟨rfl, hb1⟩) | (go_at_call 24; refine (HW.out _).mono ?_; rintro e w' ⟨rfl, rfl⟩) | (go_at_call 25; refine (HQ.out _).mono ?_; rintro e w' ⟨rfl, rfl⟩) | (go_at_call 20; refine (lives_any _).mono ?_; rintro e w2 ⟨rfl, hb2⟩))
      go_ret
      exact ⟨rfl, hb1.trans (hb2.mono hb1.size)⟩
    · obtain ⟨n, rfl⟩ := Int.eq_ofNat_of_zero_le (show 0 ≤ a1 by omega)
      have hcl : clamp (n : Int) = n := by unfold clamp; rw [if_neg h0, if_neg h1]; omega
      rw [hcl] at HW
      have HQ := Lib.hid (ref_Power n (by omega))
      clear hcl
      generalize (pw n).1 = p at *
      generalize (pw n).2 = q at *
      go_enter Try.func6, Try.ntmps6
      go_wp2_with (first | (go_at_call 23; refine (HP.out _).mono ?_; rintro e w' ⟨rfl, rfl⟩) | (go_at_call 19; refine (HR.out _).mono ?_; rintro e w' ⟨rfl, rfl⟩) | (go_at_call 18; refine (HA.out _).mono ?_; rintro e w1 ⟨rfl, hb1⟩) | (go_at_call 24; refine (HW.out _).mono ?_; rintro e w' ⟨rfl, rfl⟩) | (go_at_call 25; refine (HQ.out _).mono ?_; rintro e w' ⟨rfl, rfl⟩) | (go_at_call 20; refine (lives_any _).mono ?_; rintro e w2 ⟨rfl, hb2⟩))
      go_ret
      exact ⟨rfl, hb1.trans (hb2.mono hb1.size)⟩
end Go.Proofs.Ytpggdofleehmdaa.planePoints

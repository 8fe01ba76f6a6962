/- The walk of the law PlaneAddrs: the Go text returns true and writes nothing that was there. No condition. -/
import Derived.Test.YtpggdofleehmdaaPlaneFns
namespace Go.Proofs.Ytpggdofleehmdaa.planeAddrs
open Go.RowKit Go.Proofs.Ytpggdofleehmdaa.plane
set_option linter.unusedVariables false

theorem walk (a0 : Int) (w0 : (Lit.int .i64 a0).wf = true) (a1 : Int) (w1 : (Lit.int .i64 a1).wf = true) (a2 : Int) (w2 : (Lit.int .u32 a2).wf = true) (W : World) :
    Calls Try.prog 4 #[.int .i64 a0, .int .i64 a1, .int .u32 a2] W fun e w' => e = .returned (.bool true) ∧ Below W.heap.size W w' := by
  have b0 : -9223372036854775808 ≤ a0 ∧ a0 ≤ 9223372036854775807 := by simpa [Lit.wf, IntKind.min, IntKind.max, IntKind.signed, IntKind.bits] using w0
  have b1 : -9223372036854775808 ≤ a1 ∧ a1 ≤ 9223372036854775807 := by simpa [Lit.wf, IntKind.min, IntKind.max, IntKind.signed, IntKind.bits] using w1
  have b2 : 0 ≤ a2 ∧ a2 ≤ 4294967295 := by simpa [Lit.wf, IntKind.min, IntKind.max, IntKind.signed, IntKind.bits] using w2
  clear w0 w1 w2
  obtain ⟨a, rfl⟩ := Int.eq_ofNat_of_zero_le b2.1
  have Ha := Lib.hid (addr_any a0 a1 b0 b1)
  have Hp := Lib.hid (ref_Point a (by omega))
  have hfl := find_lt (a0, a1)
  have hfp := find_pt a (by omega)
  by_cases hok : (find (a0, a1)).2 = true
  · have hback := find_back _ hok
    have Hq := Lib.hid (ref_Point (find (a0, a1)).1 hfl)
    rw [hback] at Hq
    rw [hok] at Ha
    by_cases hx : (pt 32 a).1 = a0
    · by_cases hy : (pt 32 a).2 = a1
      · have hpe : pt 32 a = (a0, a1) := Prod.ext hx hy
        rw [hpe] at hfp Hp
        rw [hfp] at Ha Hq
        dsimp only at Ha Hq Hp
        clear hx hy hpe hfp hback hok hfl b0 b1 b2
        go_enter Try.func4, Try.ntmps4
        go_wp2_with (first | (go_at_call 18; refine (Ha.out _).mono ?_; rintro e w1 ⟨rfl, hb1⟩) | (go_at_call 19; refine (Hp.out _).mono ?_; rintro e w' ⟨rfl, rfl⟩) | (go_at_call 20; refine (lives_any _).mono ?_; rintro e w2 ⟨rfl, hb2⟩))
        go_ret
        exact ⟨rfl, hb1.trans (hb2.mono hb1.size)⟩
      · have e1 : ((pt 32 a).1 != a0) = false := by simpa using hx
        have e2 : ((pt 32 a).2 != a1) = true := by simpa using hy
        clear hx hy hfp hback hok hfl b0 b1 b2
        generalize (pt 32 a).1 = u at *
        generalize (pt 32 a).2 = v at *
        generalize (find (a0, a1)).1 = b at *
        dsimp only at Hq
        go_enter Try.func4, Try.ntmps4
        go_wp2_with fail
        refine (Ha.out _).mono ?_; rintro e w1 ⟨rfl, hb1⟩
        go_wp2_with fail
        refine (Hp.out _).mono ?_; rintro e w' ⟨rfl, rfl⟩
        go_wp2_with fail
        refine (Hq.out _).mono ?_; rintro e w' ⟨rfl, rfl⟩
        go_wp2_with fail
        refine (lives_any _).mono ?_; rintro e w2 ⟨rfl, hb2⟩
        go_wp2_with fail
        go_ret
        exact ⟨rfl, hb1.trans (hb2.mono hb1.size)⟩
    · have e1 : ((pt 32 a).1 != a0) = true := by simpa using hx
      clear hx hfp hback hok hfl b0 b1 b2
      generalize (pt 32 a).1 = u at *
      generalize (pt 32 a).2 = v at *
      generalize (find (a0, a1)).1 = b at *
      dsimp only at Hq
      go_enter Try.func4, Try.ntmps4
      go_wp2_with fail
      refine (Ha.out _).mono ?_; rintro e w1 ⟨rfl, hb1⟩
      go_wp2_with fail
      refine (Hp.out _).mono ?_; rintro e w' ⟨rfl, rfl⟩
      go_wp2_with fail
      refine (Hq.out _).mono ?_; rintro e w' ⟨rfl, rfl⟩
      go_wp2_with fail
      refine (lives_any _).mono ?_; rintro e w2 ⟨rfl, hb2⟩
      go_wp2_with fail
      go_ret
      exact ⟨rfl, hb1.trans (hb2.mono hb1.size)⟩
  · have hf : (find (a0, a1)).2 = false := by simpa using hok
    have hz := find_zero _ hf
    rw [hf, hz] at Ha
    have hne : (pt 32 a).1 ≠ a0 ∨ (pt 32 a).2 ≠ a1 := by
      rcases Classical.em ((pt 32 a).1 = a0) with h1 | h1
      · rcases Classical.em ((pt 32 a).2 = a1) with h2 | h2
        · rw [show pt 32 a = (a0, a1) from Prod.ext h1 h2] at hfp
          rw [hfp] at hf
          cases hf
        · exact .inr h2
      · exact .inl h1
    by_cases hx : (pt 32 a).1 = a0
    · have e1 : ((pt 32 a).1 != a0) = false := by simpa using hx
      have e2 : ((pt 32 a).2 != a1) = true := by
        rcases hne with h | h
        · exact absurd hx h
        · simpa using h
      clear hx hfp hok hfl b0 b1 b2 hf hz hne
      generalize (pt 32 a).1 = u at *
      generalize (pt 32 a).2 = v at *
      go_enter Try.func4, Try.ntmps4
      go_wp2_with fail
      refine (Ha.out _).mono ?_; rintro e w1 ⟨rfl, hb1⟩
      go_wp2_with fail
      refine (Hp.out _).mono ?_; rintro e w' ⟨rfl, rfl⟩
      go_wp2_with fail
      refine (lives_any _).mono ?_; rintro e w2 ⟨rfl, hb2⟩
      go_wp2_with fail
      go_ret
      exact ⟨rfl, hb1.trans (hb2.mono hb1.size)⟩
    · have e1 : ((pt 32 a).1 != a0) = true := by simpa using hx
      clear hx hfp hok hfl b0 b1 b2 hf hz hne
      generalize (pt 32 a).1 = u at *
      generalize (pt 32 a).2 = v at *
      go_enter Try.func4, Try.ntmps4
      go_wp2_with fail
      refine (Ha.out _).mono ?_; rintro e w1 ⟨rfl, hb1⟩
      go_wp2_with fail
      refine (Hp.out _).mono ?_; rintro e w' ⟨rfl, rfl⟩
      go_wp2_with fail
      refine (lives_any _).mono ?_; rintro e w2 ⟨rfl, hb2⟩
      go_wp2_with fail
      go_ret
      exact ⟨rfl, hb1.trans (hb2.mono hb1.size)⟩
end Go.Proofs.Ytpggdofleehmdaa.planeAddrs

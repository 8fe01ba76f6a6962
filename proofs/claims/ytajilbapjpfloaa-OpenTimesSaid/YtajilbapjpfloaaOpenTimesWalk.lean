/- The walk of the law OpenTimes: the Go text returns true and writes nothing that was there. No condition. -/
import Derived.Test.YtajilbapjpfloaaOpenLives
namespace Go.Proofs.Ytajilbapjpfloaa.openTimes
open Go.RowKit Go.Proofs.Ytajilbapjpfloaa.kit Go.Proofs.Ytajilbapjpfloaa.mem Go.Proofs.Ytajilbapjpfloaa.openk
set_option linter.unusedVariables false

set_option maxRecDepth 100000 in
set_option maxHeartbeats 2000000 in
theorem walk (a0 : Int) (w0 : (Lit.int .i64 a0).wf = true) (a1 : Int) (w1 : (Lit.int .i64 a1).wf = true) (W : World) :
    Calls Try.prog 3 #[.int .i64 a0, .int .i64 a1] W fun e w' => e = .returned (.bool true) ∧ Below W.heap.size W w' := by
  have b0 := wf_i64 w0
  have b1 := wf_i64 w1
  clear w0 w1
  have HL := Lib.hid (lives_any W)
  by_cases h : a0 < 1 ∨ a1 < 1
  · have HH := fun w => Lib.hid (Hold_any a0 a1 w)
    have HK := fun w => Lib.hid (Keep_any a0 b0 w)
    have e1 : max (min a0 a1) 0 = 0 := by omega
    rw [e1] at HH
    clear e1
    by_cases h3 : a0 < 3
    · rw [if_pos h3] at HK
      by_cases h1 : a0 < 1
      · clear h
        go_enter Try.func3, Try.ntmps3
        go_wp2_with (first
          | (go_at_call 14; refine (HH _).out.mono ?_; rintro e w' ⟨rfl, rfl⟩)
          | (go_at_call 15; refine (HK _).out.mono ?_; rintro e w' ⟨rfl, rfl⟩)
          | (go_at_call 16; refine HL.out.mono ?_; rintro e w2 ⟨rfl, hb⟩; have HB := Lib.hid hb; clear hb))
        go_ret
        exact ⟨rfl, HB.out⟩
      · have h2 : a1 < 1 := by omega
        clear h
        go_enter Try.func3, Try.ntmps3
        go_wp2_with (first
          | (go_at_call 14; refine (HH _).out.mono ?_; rintro e w' ⟨rfl, rfl⟩)
          | (go_at_call 15; refine (HK _).out.mono ?_; rintro e w' ⟨rfl, rfl⟩)
          | (go_at_call 16; refine HL.out.mono ?_; rintro e w2 ⟨rfl, hb⟩; have HB := Lib.hid hb; clear hb))
        go_ret
        exact ⟨rfl, HB.out⟩
    · rw [if_neg h3] at HK
      have h1 : ¬ a0 < 1 := by omega
      have h2 : a1 < 1 := by omega
      obtain ⟨k, hk, hkz⟩ : ∃ k, a0 / 3 = k ∧ (k == 0) = false := ⟨_, rfl, by simp; omega⟩
      rw [hk] at HK
      clear h hk
      go_enter Try.func3, Try.ntmps3
      go_wp2_with (first
        | (go_at_call 14; refine (HH _).out.mono ?_; rintro e w' ⟨rfl, rfl⟩)
        | (go_at_call 15; refine (HK _).out.mono ?_; rintro e w' ⟨rfl, rfl⟩)
        | (go_at_call 16; refine HL.out.mono ?_; rintro e w2 ⟨rfl, hb⟩; have HB := Lib.hid hb; clear hb))
      go_ret
      exact ⟨by simp; omega, HB.out⟩
  · have h1 : ¬ a0 < 1 := fun x => h (.inl x)
    have h2 : ¬ a1 < 1 := fun x => h (.inr x)
    clear h
    have HH := fun w => Lib.hid (Hold_any a0 a1 w)
    have HJ := fun w => Lib.hid (Hold_any a1 a0 w)
    have HK := fun w => Lib.hid (Keep_any a0 b0 w)
    by_cases h4 : a1 < a0
    · have e1 : max (min a0 a1) 0 = a1 := by omega
      have e2 : max (min a1 a0) 0 = a1 := by omega
      rw [e1] at HH
      rw [e2] at HJ
      clear e1 e2
      by_cases h3 : a0 < 3
      · rw [if_pos h3] at HK
        go_enter Try.func3, Try.ntmps3
        go_wp2_with fail
        refine (HH _).out.mono ?_; rintro e w' ⟨rfl, rfl⟩
        go_wp2_with fail
        refine (HK _).out.mono ?_; rintro e w' ⟨rfl, rfl⟩
        go_wp2_with fail
        refine (HJ _).out.mono ?_; rintro e w' ⟨rfl, rfl⟩
        go_wp2_with fail
        refine HL.out.mono ?_; rintro e w2 ⟨rfl, hb⟩
        have HB := Lib.hid hb
        clear hb
        go_wp2_with fail
        go_ret
        exact ⟨by simp, HB.out⟩
      · rw [if_neg h3] at HK
        go_enter Try.func3, Try.ntmps3
        go_wp2_with fail
        refine (HH _).out.mono ?_; rintro e w' ⟨rfl, rfl⟩
        go_wp2_with fail
        refine (HK _).out.mono ?_; rintro e w' ⟨rfl, rfl⟩
        go_wp2_with fail
        refine (HJ _).out.mono ?_; rintro e w' ⟨rfl, rfl⟩
        go_wp2_with fail
        refine HL.out.mono ?_; rintro e w2 ⟨rfl, hb⟩
        have HB := Lib.hid hb
        clear hb
        go_wp2_with fail
        go_ret
        exact ⟨by simp, HB.out⟩
    · have e1 : max (min a0 a1) 0 = a0 := by omega
      have e2 : max (min a1 a0) 0 = a0 := by omega
      rw [e1] at HH
      rw [e2] at HJ
      clear e1 e2
      by_cases h3 : a0 < 3
      · rw [if_pos h3] at HK
        go_enter Try.func3, Try.ntmps3
        go_wp2_with fail
        refine (HH _).out.mono ?_; rintro e w' ⟨rfl, rfl⟩
        go_wp2_with fail
        refine (HK _).out.mono ?_; rintro e w' ⟨rfl, rfl⟩
        go_wp2_with fail
        refine (HJ _).out.mono ?_; rintro e w' ⟨rfl, rfl⟩
        go_wp2_with fail
        refine HL.out.mono ?_; rintro e w2 ⟨rfl, hb⟩
        have HB := Lib.hid hb
        clear hb
        go_wp2_with fail
        go_ret
        exact ⟨by simp, HB.out⟩
      · rw [if_neg h3] at HK
        go_enter Try.func3, Try.ntmps3
        go_wp2_with fail
        refine (HH _).out.mono ?_; rintro e w' ⟨rfl, rfl⟩
        go_wp2_with fail
        refine (HK _).out.mono ?_; rintro e w' ⟨rfl, rfl⟩
        go_wp2_with fail
        refine (HJ _).out.mono ?_; rintro e w' ⟨rfl, rfl⟩
        go_wp2_with fail
        refine HL.out.mono ?_; rintro e w2 ⟨rfl, hb⟩
        have HB := Lib.hid hb
        clear hb
        go_wp2_with fail
        go_ret
        exact ⟨by simp, HB.out⟩
end Go.Proofs.Ytajilbapjpfloaa.openTimes

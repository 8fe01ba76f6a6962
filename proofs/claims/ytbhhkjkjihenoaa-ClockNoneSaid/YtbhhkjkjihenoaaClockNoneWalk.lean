/- The walk of the law ClockNone: the Go text returns true and writes nothing that was there. No condition. -/
import Derived.Test.YtbhhkjkjihenoaaClockLives
namespace Go.Proofs.Ytbhhkjkjihenoaa.clockNone
open Go.RowKit Go.Proofs.Ytbhhkjkjihenoaa.kit Go.Proofs.Ytbhhkjkjihenoaa.mem Go.Proofs.Ytbhhkjkjihenoaa.foot Go.Proofs.Ytbhhkjkjihenoaa.clk
set_option linter.unusedVariables false
set_option linter.unusedSimpArgs false

set_option maxRecDepth 100000 in
theorem walk (a0 : Int) (w0 : (Lit.int .i64 a0).wf = true) (a1 : Int) (w1 : (Lit.int .i64 a1).wf = true) (W : World) :
    Calls Try.prog 12 #[.int .i64 a0, .int .i64 a1] W fun e w' => e = .returned (.bool true) ∧ Below W.heap.size W w' := by
  have HSet : Hid (∀ w, Calls Try.prog 46 #[.pointer none, .int .i64 a0, .int .i64 5] w fun e w' => e = .returned (.int .i64 1) ∧ w = w') := fun w => clk.Set_none a0 5 w
  clear w0 w1
  go_enter Try.func12, Try.ntmps12
  go_wp2_with (first
    | (go_at_call 48; refine (Left_none _ _).mono ?_; rintro e w' ⟨rfl, rfl⟩)
    | (go_at_call 57; refine (Next_none _).mono ?_; rintro e w' ⟨rfl, rfl⟩)
    | (go_at_call 46; refine (HSet.out _).mono ?_; rintro e w' ⟨rfl, rfl⟩)
    | (go_at_call 50; refine (Stop_none _ _).mono ?_; rintro e w' ⟨rfl, rfl⟩)
    | (go_at_call 47; refine (Tick_none _).mono ?_; rintro e w' ⟨rfl, rfl⟩)
    | (go_at_call 55; refine (Run_none _ _).mono ?_; rintro e w' ⟨rfl, rfl⟩)
    | (go_at_call 59; refine (Now_none _).mono ?_; rintro e w' ⟨rfl, rfl⟩)
    | (go_at_call 58; refine (Keys_none _).mono ?_; rintro e w' ⟨rfl, rfl⟩)
    | (go_at_call 49; refine (lives_any _).mono ?_; rintro e w' ⟨rfl, hb⟩))
  go_ret
  exact ⟨rfl, hb⟩
end Go.Proofs.Ytbhhkjkjihenoaa.clockNone

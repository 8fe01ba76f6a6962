/- confluencelaw09.lives is true. No condition. -/
import Derived.Test.YtajilbapjpfloaaOpenFns
import Derived.Test.YtajilbapjpfloaaStr
namespace Go.Proofs.Ytajilbapjpfloaa.openk
open Go.RowKit Go.Proofs.Ytajilbapjpfloaa.kit Go.Proofs.Ytajilbapjpfloaa.mem Go.Proofs.Ytajilbapjpfloaa.octet
set_option linter.unusedVariables false

set_option maxRecDepth 100000 in
theorem lives_any (w : World) : Calls Try.prog 16 #[] w fun e w' => e = .returned (.bool true) ∧ Below w.heap.size w w' := by
  have hE := Encode_yes 1 90 5 false w (by decide) (by omega) (by omega)
  have he : enc 1 90 5 false = [4, 0, 1, 0, 90, 0, 0, 0, 5, 0] := by decide
  rw [he] at hE
  have HE := Lib.hid hE
  have HH := fun w => Lib.hid (Hold_any 90 180 w)
  have HK := fun w => Lib.hid (Keep_any 90 (by omega) w)
  have e1 : max (min (90 : Int) 180) 0 = 90 := by decide
  have e2 : (if (90 : Int) < 3 then (0 : Int) else 90 / 3) = 30 := by decide
  rw [e1] at HH
  rw [e2] at HK
  clear hE he e1 e2
  go_enter Try.func16, Try.ntmps16
  go_wp2_with fail
  refine HE.out.mono ?_; rintro e w1 ⟨A, c, rfl, g2, g3, g4, g5, g6⟩
  have hstr : (convert 26 9 (.slice A 10 c)).run Try.prog w1 = .ok (.string ⟨#[4, 0, 1, 0, 90, 0, 0, 0, 5, 0]⟩) w1 := run_str (l := [4, 0, 1, 0, 90, 0, 0, 0, 5, 0]) (c := c) g5
  have HB := Lib.hid g6
  clear g2 g3 g4 g5 g6
  go_wp2_with (first
    | (go_at_call 14; refine (HH _).out.mono ?_; rintro e w' ⟨rfl, rfl⟩)
    | (go_at_call 15; refine (HK _).out.mono ?_; rintro e w' ⟨rfl, rfl⟩))
  go_ret
  exact ⟨rfl, HB.out⟩
end Go.Proofs.Ytajilbapjpfloaa.openk

/- What frame.marked, fits and judge return. Condition: numbers of a head. -/
import Derived.Test.YthoclemgiopjpaaRepeat
import Derived.Test.YthoclemgiopjpaaFrameMath
import Derived.ScopeJumps
namespace Go.Proofs.Ythoclemgiopjpaa.frame
open Go.RowKit Go.Proofs.Ythoclemgiopjpaa.kit Go.Proofs.Ythoclemgiopjpaa.mem Go.Proofs.Ythoclemgiopjpaa.foot Go.Proofs.Ythoclemgiopjpaa.octet
set_option linter.unusedVariables false
set_option linter.unusedSimpArgs false

theorem marked_any (w : World) : Calls Try.prog 39 #[] w fun e w' => ∃ A, e = .returned (.slice A 16 16) ∧ Own w' 5 1 A 16 16 (bv marks) ∧ (∀ k, sf A k → w.heap.size ≤ k) ∧ Below w.heap.size w w' := by
  have HR := Lib.hid (Repeat_16 w)
  go_enter Try.func39, Try.ntmps39
  go_wp2_with fail
  refine HR.out.mono ?_; rintro e w1 ⟨A, rfl, h1, h2, h3⟩
  have H1 := Lib.hid h1
  have H2 := Lib.hid h2
  have H3 := Lib.hid h3
  clear h1 h2 h3
  go_wp2_with fail
  go_ret
  exact ⟨A, rfl, H1.out, H2.out, H3.out⟩

theorem fits_any (kind n : Nat) (w : World) : Calls Try.prog 62 #[.int .i64 kind, .int .i64 n] w fun e w' => e = .returned (.bool (fitsB kind n)) ∧ w = w' := by
  have H : Hid (fitsB kind n = if kind = 1 then decide (29 ≤ n) else if kind = 2 then decide (23 ≤ n) else if kind = 3 then decide (21 ≤ n) else decide (n = 19)) := rfl
  by_cases h1 : kind = 1
  · subst h1
    go_enter Try.func62, Try.ntmps62
    go_wp2_with fail
    go_ret
    exact ⟨by rw [H.out]; simp; omega, rfl⟩
  · by_cases h2 : kind = 2
    · subst h2
      go_enter Try.func62, Try.ntmps62
      go_wp2_with fail
      go_ret
      exact ⟨by rw [H.out]; simp; omega, rfl⟩
    · by_cases h3 : kind = 3
      · subst h3
        go_enter Try.func62, Try.ntmps62
        go_wp2_with fail
        go_ret
        exact ⟨by rw [H.out]; simp; omega, rfl⟩
      · have d1 : ((kind : Int) == 1) = false := by rw [beq_eq_false_iff_ne]; omega
        have d2 : ((kind : Int) == 2) = false := by rw [beq_eq_false_iff_ne]; omega
        have d3 : ((kind : Int) == 3) = false := by rw [beq_eq_false_iff_ne]; omega
        have HE : Hid (fitsB kind n = ((n : Int) == 19)) := by
          rw [Hid, H.out, if_neg h1, if_neg h2, if_neg h3, Bool.eq_iff_iff]; simp; omega
        clear H h1 h2 h3
        go_enter Try.func62, Try.ntmps62
        go_wp2_with fail
        go_ret
        exact ⟨by rw [HE.out]; rfl, rfl⟩
end Go.Proofs.Ythoclemgiopjpaa.frame

/- The walk of the law CollideKeeps: the Go text returns true and writes nothing. No condition. -/
import Derived.Test.YtpggdofleehmdaaRows
import Derived.WalkKit
import Derived.ProofKit
import Derived.Below
import Derived.BigQuiet
import Derived.Deep.QuietTactic
import Derived.WalkLawsBesides
import Derived.WalkSpells
import Derived.Outline
namespace Go.Proofs.Ytpggdofleehmdaa.collideKeeps
open Go.RowKit
set_option linter.unusedVariables false

def kp (a b : Int) (o : Bool) : Bool := (a == b) || (o == decide (b < a))

theorem keeps_in (a b : Int) (o : Bool) (w : World) : Calls Try.prog 50 #[.int .u32 a, .int .u32 b, .bool o] w fun e w' => e = .returned (.bool (kp a b o)) ∧ w = w' := by
  rcases Int.lt_trichotomy a b with h | h | h
  · have e1 : (a == b) = false := by simp; omega
    have e2 : decide (b < a) = false := by simp; omega
    go_enter Try.func50, Try.ntmps50
    go_wp2
    go_ret
    exact ⟨by simp [kp, e1, e2], rfl⟩
  · subst h
    go_enter Try.func50, Try.ntmps50
    go_wp2
    go_ret
    exact ⟨by simp [kp], rfl⟩
  · have e1 : (a == b) = false := by simp; omega
    have e2 : decide (b < a) = true := by simp; omega
    go_enter Try.func50, Try.ntmps50
    go_wp2
    go_ret
    exact ⟨by simp [kp, e1, e2], rfl⟩

theorem keeps_any (a b : Int) (o : Bool) (w : World) : Calls Try.prog 15 #[.int .u32 a, .int .u32 b, .bool o] w fun e w' => e = .returned (.bool (kp a b o)) ∧ w = w' := by
  go_enter Try.func15, Try.ntmps15
  go_wp2_with (go_at_call 50; refine (keeps_in _ _ _ _).mono ?_; rintro e w' ⟨rfl, rfl⟩)
  go_ret
  exact ⟨rfl, rfl⟩

theorem ref_any (a b : Int) (o : Bool) (w : World) : Calls Try.prog 16 #[.int .u32 a, .int .u32 b, .bool o] w fun e w' => e = .returned (.bool (kp a b o)) ∧ w = w' := by
  rcases Int.lt_trichotomy a b with h | h | h
  · have e1 : (a == b) = false := by simp; omega
    have e2 : decide (b < a) = false := by simp; omega
    have e3 : decide (a < b) = true := by simp; omega
    cases o <;>
    · go_enter Try.func16, Try.ntmps16
      go_wp2
      go_ret
      exact ⟨by simp [kp, e1, e2], rfl⟩
  · subst h
    go_enter Try.func16, Try.ntmps16
    go_wp2
    go_ret
    exact ⟨by simp [kp], rfl⟩
  · have e1 : (a == b) = false := by simp; omega
    have e2 : decide (b < a) = true := by simp; omega
    have e3 : decide (a < b) = false := by simp; omega
    cases o <;>
    · go_enter Try.func16, Try.ntmps16
      go_wp2
      go_ret
      exact ⟨by simp [kp, e1, e2], rfl⟩

theorem lives_any (w : World) : Calls Try.prog 17 #[] w fun e w' => e = .returned (.bool true) ∧ w = w' := by
  go_enter Try.func17, Try.ntmps17
  go_wp2_with (go_at_call 15; refine (keeps_any _ _ _ _).mono ?_; rintro e w' ⟨rfl, rfl⟩)
  go_ret
  exact ⟨rfl, rfl⟩

theorem kp_swap (a b : Int) (o : Bool) (h : a ≠ b) : kp b a (!o) = kp a b o := by
  unfold kp
  rcases Int.lt_or_gt_of_ne h with h | h
  · have e1 : (a == b) = false := by simp; omega
    have e2 : (b == a) = false := by simp; omega
    have e3 : decide (b < a) = false := by simp; omega
    have e4 : decide (a < b) = true := by simp; omega
    rw [e1, e2, e3, e4]; cases o <;> rfl
  · have e1 : (a == b) = false := by simp; omega
    have e2 : (b == a) = false := by simp; omega
    have e3 : decide (b < a) = true := by simp; omega
    have e4 : decide (a < b) = false := by simp; omega
    rw [e1, e2, e3, e4]; cases o <;> rfl

theorem kp_not (a b : Int) (o : Bool) (h : a ≠ b) : (kp a b (!o) != kp a b o) = true := by
  unfold kp
  have e1 : (a == b) = false := by simpa using h
  rw [e1]; generalize decide (b < a) = d; cases o <;> cases d <;> rfl

theorem walk (a0 : Int) (w0 : (Lit.int .u32 a0).wf = true) (a1 : Int) (w1 : (Lit.int .u32 a1).wf = true) (a2 : Bool) (W : World) :
    Calls Try.prog 3 #[.int .u32 a0, .int .u32 a1, .bool a2] W fun e w' => e = .returned (.bool true) ∧ Below W.heap.size W w' := by
  clear w0 w1
  by_cases h : a0 = a1
  · subst h
    have k0 : (kp a0 a0 a2 != kp a0 a0 a2) = false := by simp
    go_enter Try.func3, Try.ntmps3
    go_wp2_with (first | (go_at_call 15; refine (keeps_any _ _ _ _).mono ?_; rintro e w' ⟨rfl, rfl⟩) | (go_at_call 16; refine (ref_any _ _ _ _).mono ?_; rintro e w' ⟨rfl, rfl⟩) | (go_at_call 17; refine (lives_any _).mono ?_; rintro e w' ⟨rfl, rfl⟩))
    go_ret
    exact ⟨rfl, Below.refl _ _⟩
  · have e0 : (a0 == a1) = false := by simpa using h
    have e1 := kp_swap a0 a1 a2 h
    have e2 := kp_not a0 a1 a2 h
    have k0 : (kp a0 a1 a2 != kp a0 a1 a2) = false := by simp
    go_enter Try.func3, Try.ntmps3
    go_wp2_with (first | (go_at_call 15; refine (keeps_any _ _ _ _).mono ?_; rintro e w' ⟨rfl, rfl⟩) | (go_at_call 16; refine (ref_any _ _ _ _).mono ?_; rintro e w' ⟨rfl, rfl⟩) | (go_at_call 17; refine (lives_any _).mono ?_; rintro e w' ⟨rfl, rfl⟩))
    all_goals go_ret
    all_goals exact ⟨by simp_all, Below.refl _ _⟩
end Go.Proofs.Ytpggdofleehmdaa.collideKeeps

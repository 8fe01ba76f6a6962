/- b[:n] and b[n:] of a byte slice, nil or not, n within its length. No condition. -/
import Derived.Test.YtajilbapjpfloaaMem
import Derived.Test.YtajilbapjpfloaaRows
namespace Go.Proofs.Ytajilbapjpfloaa.mem
open Go.RowKit Go.Proofs.Ytajilbapjpfloaa.kit
set_option linter.unusedVariables false

theorem cut_lo (A : Option Addr) (c l n : Nat) (hA : A = none → c = 0) (hc : l ≤ c) (hm : c ≤ maxLen) (hn : n ≤ l) (w : World) :
    (Instr.slice 26 (.slice A l c) none (some (.int .i64 n)) none).run Try.prog w = .ok (.slice A n c) w := by
  unfold maxLen at hm
  rcases A with _ | ad
  · have := hA rfl
    subst this
    obtain rfl : l = 0 := by omega
    obtain rfl : n = 0 := by omega
    have h : ∀ w, (Instr.slice 26 (.slice none 0 0) none (some (.int .i64 0)) none).run Try.prog w = .ok (.slice none 0 0) w := fun w => by kernel_rfl
    exact h w
  · have h1 : (n : Int) ≤ (c : Int) := by omega
    go_simp

theorem cut_hi (A : Option Addr) (c l n : Nat) (hA : A = none → c = 0) (hc : l ≤ c) (hm : c ≤ maxLen) (hn : n ≤ l) :
    ∃ A' c', (A' = none → c' = 0) ∧ l - n ≤ c' ∧ c' ≤ maxLen ∧ (∀ w, (Instr.slice 26 (.slice A l c) (some (.int .i64 n)) none none).run Try.prog w = .ok (.slice A' (l - n) c') w) ∧ (∀ w B (x : List UInt8), x.length = l → Bs w B A x → Bs w B A' (x.drop n)) := by
  have hm' := hm
  unfold maxLen at hm
  rcases A with _ | ad
  · have := hA rfl
    subst this
    obtain rfl : l = 0 := by omega
    obtain rfl : n = 0 := by omega
    exact ⟨none, 0, fun _ => rfl, Nat.le_refl _, Nat.zero_le _, fun w => by kernel_rfl, fun w B x hx h => h⟩
  · by_cases hz : n = c
    · subst hz
      obtain rfl : l = n := by omega
      refine ⟨some ad, 0, (fun h => by cases h), by omega, Nat.zero_le _, fun w => ?_, fun w B x hx h => ?_⟩
      · go_simp
      · rw [List.drop_of_length_le (by omega)]; exact Rd.nil _ _ _ _
    · refine ⟨some (ad.add n), c - n, (fun h => by cases h), by omega, by unfold maxLen; omega, fun w => ?_, fun w B x hx h => ?_⟩
      · have h1 : (n : Int) ≤ (l : Int) := by omega
        go_simp
        intro h; exact absurd h.symm hz
      · have := Rd.skip h (k := n) (by omega)
        rw [← bv_drop] at this
        unfold Bs; rw [List.length_drop]; exact this
end Go.Proofs.Ytajilbapjpfloaa.mem

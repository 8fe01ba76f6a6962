/- b[:n] and b[n:] of a byte slice, nil or not, n within its length. No condition. -/
import Derived.Test.YtaeeeinpelfppaaGreatGround
import Derived.Test.YtaeeeinpelfppaaGreatRows
namespace Go.Proofs.YtaeeeinpelfppaaGreat.mem
open Go.RowKit Go.Proofs.YtaeeeinpelfppaaGreat.kit
set_option linter.unusedVariables false

theorem cut_lo (A : Option Addr) (c l n : Nat) (hA : A = none → c = 0) (hc : l ≤ c) (hm : c ≤ maxLen) (hn : n ≤ l) (w : World) :
    (Instr.slice 22 (.slice A l c) none (some (.int .i64 n)) none).run Tryz.prog w = .ok (.slice A n c) w := by
  unfold maxLen at hm
  rcases A with _ | ad
  · have := hA rfl
    subst this
    obtain rfl : l = 0 := by omega
    obtain rfl : n = 0 := by omega
    have h : ∀ w, (Instr.slice 22 (.slice none 0 0) none (some (.int .i64 0)) none).run Tryz.prog w = .ok (.slice none 0 0) w := fun w => by kernel_rfl
    exact h w
  · have h1 : (n : Int) ≤ (c : Int) := by omega
    go_simp

end Go.Proofs.YtaeeeinpelfppaaGreat.mem

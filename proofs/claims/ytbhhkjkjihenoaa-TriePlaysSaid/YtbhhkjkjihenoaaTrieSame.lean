/- What confluenceref07.Same returns of two slices that hold the same prefixes: true. No condition. -/
import Derived.Test.YtbhhkjkjihenoaaTrieOps
namespace Go.Proofs.Ytbhhkjkjihenoaa.tri
open Go.RowKit Go.Proofs.Ytbhhkjkjihenoaa.kit Go.Proofs.Ytbhhkjkjihenoaa.mem Go.Proofs.Ytbhhkjkjihenoaa.foot
set_option linter.unusedVariables false

set_option maxHeartbeats 1000000 in
theorem Same_eq (A A' : Option Addr) (c c' B : Nat) (l : List (Nat × Int)) (w : World) (hl : l.length ≤ maxLen) (h : Ps w B A l) (h' : Ps w B A' l) :
    Calls Try.prog 22 #[.slice A l.length c, .slice A' l.length c'] w fun e w' => e = .returned (.bool true) ∧ ∃ m, w' = w.drewN m := by
  have H := Lib.hid h
  have H' := Lib.hid h'
  clear h h'
  unfold maxLen at hl
  have d0 : ((l.length : Int) != (l.length : Int)) = false := by simp
  go_enter Try.func22, Try.ntmps22
  go_wp2_with fail
  go_loopw [5] (fun i wr => ∃ k m : Nat, k ≤ l.length ∧ i = .int .i64 k ∧ wr = w.drewN m) (fun i _ => l.length - (intOf i).toNat)
  case atStart => exact ⟨0, 0, by omega, rfl, rfl⟩
  case round =>
    obtain ⟨k, m, hk, rfl, rfl⟩ := hrel
    by_cases hlt : k < l.length
    · obtain ⟨b, off, rfl, hb, c0, c1⟩ := H.out.at_ hlt
      obtain ⟨b', off', rfl, hb', c0', c1'⟩ := H'.out.at_ hlt
      have hki : (k : Int) < (l.length : Int) := by omega
      generalize l[k] = p at *
      go_wp2_with fail
      go_quiet (fail)
      go_wp2_with fail
      go_roundw
      case rel => exact ⟨k + 1, _, by omega, by go_num, rfl⟩
      case measure => simp [intOf]; omega
    · obtain rfl : k = l.length := by omega
      go_wp2_with fail
      go_ret
      exact ⟨rfl, m, rfl⟩

/-- two new slices of the same keys -/
theorem Same_keys {A A' : Option Addr} {c c' : Nat} (l : List Key) {w w1 w2 : World} (h : NewSl 2 l.length (kv l) w A c w1) (h' : NewSl 2 l.length (kv l) w1 A' c' w2) :
    Calls Try.prog 22 #[.slice A l.length c, .slice A' l.length c'] w2 fun e w' => e = .returned (.bool true) ∧ ∃ m, w' = w2.drewN m := by
  have hl : (l.map pk).length = l.length := by simp
  have hlen : l.length ≤ maxLen := Nat.le_trans h.cap h.max
  have := Same_eq A A' c c' w2.heap.size (l.map pk) w2 (by rw [hl]; exact hlen) (by unfold Ps; rw [hl]; exact (h.later h'.bel).rd) (by unfold Ps; rw [hl]; exact h'.rd)
  rw [hl] at this
  exact this
end Go.Proofs.Ytbhhkjkjihenoaa.tri

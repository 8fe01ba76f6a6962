/- What prefix.Halves returns of a good prefix, said by its bits. Conditions as each lemma states. -/
import Derived.Test.YtpabblkppbfbjaaDoorTrieNum
import Derived.Test.YtpabblkppbfbjaaDoorPfxFns2
import Derived.Test.YtpabblkppbfbjaaDoorStruct
import Derived.Test.YtpabblkppbfbjaaDoorSortOps
import Derived.Deep.RegionHeld3
namespace Go.Proofs.YtpabblkppbfbjaaDoor.wlk
open Go.RowKit Go.Proofs.YtpabblkppbfbjaaDoor.kit Go.Proofs.YtpabblkppbfbjaaDoor.pfx Go.Proofs.YtpabblkppbfbjaaDoor.mem Go.Proofs.YtpabblkppbfbjaaDoor.foot Go.Proofs.YtpabblkppbfbjaaDoor.tri Go.Proofs.YtpabblkppbfbjaaDoor.srt
set_option linter.unusedVariables false
set_option linter.unusedSimpArgs false

/-- a prefix by its bits -/
def kp (k : Key) : Pf := (adr k, (k.length : Int))
theorem adr_false {k : Key} (h : k.length < 32) : adr (k ++ [false]) = adr k := by
  unfold adr
  rw [num_app, num_one]
  simp only [List.length_append, List.length_singleton]
  obtain ⟨m, hm⟩ : ∃ m, 32 - k.length = m + 1 := ⟨31 - k.length, by omega⟩
  have hp : 2 ^ (m + 1) = 2 * 2 ^ m := by rw [Nat.pow_succ, Nat.mul_comm]
  rw [show 32 - (k.length + 1) = m from by omega, hm, hp]
  simp only [Bool.false_eq_true, if_false, Nat.add_zero, Nat.pow_one]
  rw [Nat.mul_assoc]
theorem adr_true {k : Key} (h : k.length < 32) : adr (k ++ [true]) = adr k ||| 2 ^ (31 - k.length) := by
  unfold adr
  rw [num_app, num_one]
  simp only [List.length_append, List.length_singleton]
  obtain ⟨m, hm⟩ : ∃ m, 32 - k.length = m + 1 := ⟨31 - k.length, by omega⟩
  have hp : 2 ^ (m + 1) = 2 * 2 ^ m := by rw [Nat.pow_succ, Nat.mul_comm]
  rw [show 32 - (k.length + 1) = m from by omega, hm, show 31 - k.length = m from by omega]
  have h1 := Nat.two_pow_add_eq_or_of_lt (b := 2 ^ m) (i := m + 1) (Nat.pow_lt_pow_right (by omega) (by omega)) (num k)
  rw [Nat.mul_comm (num k) (2 ^ (m + 1)), ← h1, hp]
  simp only [if_true, Nat.pow_one]
  rw [Nat.add_mul, Nat.one_mul]
  congr 1
  ac_rfl

theorem bkd {w : World} {g : Nat} {t : TypeId} {cs : Array Value} (h : Bk w g t cs) : Bk w.drew g t cs := h
theorem hpd {w : World} {g : Nat} {t : TypeId} {cs : Array Value} (h : Bk w g t cs) : w.drew.heap[g]? = some (.cells cs t (0, 0)) := h
theorem info_pf2 : (Tryd.prog.info? 24).map (·.size) = some 2 := by kernel_rfl

end Go.Proofs.YtpabblkppbfbjaaDoor.wlk

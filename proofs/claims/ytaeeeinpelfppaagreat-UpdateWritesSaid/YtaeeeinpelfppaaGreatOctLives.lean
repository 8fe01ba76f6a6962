/- What confluencelaw06.lives returns, and readers over joined lists. No condition. -/
import Derived.Test.YtaeeeinpelfppaaGreatOctRef
import Derived.Test.YtaeeeinpelfppaaGreatStr
import Derived.Deep.RegionHeld3
import Derived.Deep.RegionWith
namespace Go.Proofs.YtaeeeinpelfppaaGreat.octet
open Go.RowKit Go.Proofs.YtaeeeinpelfppaaGreat.kit Go.Proofs.YtaeeeinpelfppaaGreat.mem
set_option linter.unusedVariables false

theorem rd_app (x y : List UInt8) (n : Int) (h : n = (x.length : Int)) : rok (x ++ y) false n = true ∧ rget (x ++ y) false n = x ∧ rleft (x ++ y) false n = y := by
  subst h
  have h1 : rok (x ++ y) false (x.length : Int) = true := by rw [rok_iff]; refine ⟨rfl, by omega, by simp; omega⟩
  unfold rget rleft
  rw [if_pos h1, if_pos h1]
  simp [h1]

def be4 (n : Int) : List UInt8 := [byteOf (n / 16777216), byteOf (n / 65536), byteOf (n / 256), byteOf n]
def be2 (n : Int) : List UInt8 := [byteOf (n / 256), byteOf n]

theorem num_be4 (n : Int) (h0 : 0 ≤ n) (h1 : n ≤ 4294967295) : (num (be4 n) : Int) = n := by
  have e1 := byteOf_nat (n / 16777216)
  have e2 := byteOf_nat (n / 65536)
  have e3 := byteOf_nat (n / 256)
  have e4 := byteOf_nat n
  simp only [num, be4, List.foldl]
  omega
theorem num_be2 (n : Int) (h0 : 0 ≤ n) (h1 : n ≤ 65535) : (num (be2 n) : Int) = n := by
  have e3 := byteOf_nat (n / 256)
  have e4 := byteOf_nat n
  simp only [num, be2, List.foldl]
  omega
theorem big_be4 (n : Nat) : bigv n 4 = be4 (n : Int) := by
  simp [bigv, be4]

theorem Wtr.grown {w w' : World} {B b r : Nat} {l : List UInt8} (h : Wtr w B b l) (hg : w.grownBy w' (some r)) (hr : r < B) : Wtr w' B b l := by
  obtain ⟨h1, A, c, hk, ho⟩ := h
  refine ⟨h1, A, c, hk.grown hg (by intro e; injection e with e; omega), ho.kept hg ?_⟩
  by_cases e : (Value.slice A l.length c).ownBlock = none
  · exact .inl e
  · refine .inr (fun e2 => ?_)
    have := (ho.lt r e2).1
    omega

/-- a writer that has just been made -/
theorem wtr_new (w : World) : Wtr (w.alloc (.cells #[.slice none 0 0] 71)) w.heap.size w.heap.size [] :=
  ⟨Nat.le_refl _, none, 0, Bk.new w _ _, ⟨rfl, .inl ⟨rfl, rfl⟩⟩⟩

end Go.Proofs.YtaeeeinpelfppaaGreat.octet
